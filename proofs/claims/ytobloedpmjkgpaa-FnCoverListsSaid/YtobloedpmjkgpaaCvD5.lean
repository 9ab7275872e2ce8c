/- What the cursor draws: rates. -/
import Derived.Test.YtobloedpmjkgpaaCvL
import Derived.Test.YtobloedpmjkgpaaCvD1
import Derived.Deep.RegionHeld3
import Derived.Deep.RegionLaw
import Derived.Deep.DeepCutAuto
import Derived.Deep.CutRange
namespace Go.Proofs.Ytobloedpmjkgpaa
set_option linter.unusedVariables false
set_option linter.unusedSimpArgs false
open Go.RowKit

theorem wpAnyH_weaken {P : Program} {ops : Array Oper} {Q : Exit → Act → World → Prop} {md : Region.Mode} {S S' : World → Prop} (h : ∀ w, S' w → S w) :
    ∀ (fuel : Nat) (listed : Array Bool) (a : Act) (w : World), wpAnyH P md ops Q S' fuel listed a w → wpAnyH P md ops Q S fuel listed a w
  | 0, _, _, _, H => H
  | fuel + 1, _, _, _, H => ⟨H.1, fun i hi => wpOp_mono (fun a' w' h' => ⟨h _ h'.1, wpAnyH_weaken h fuel _ a' w' h'.2⟩) (H.2 i hi)⟩
theorem step_app {P : Program} {ops : Array Oper} {o : Oper} {a : Act} {w : World} {K : Act → World → Prop} {Q : Exit → Act → World → Prop} {E : Prop} (hgd : o.guard = none) (s x : Operand) (t : TypeId)
    (ho : o.op = .call { callee := .builtin .append, args := #[s, x], argTypes := #[t, t] })
    (base : Nat) (e : TypeId) (z : Value) (size bytes : Nat) (ht : P.underlying t = some (.slice e)) (hinfo : (P.info? e).map (fun i => (i.zero, i.size, i.bytes)) = some (some z, size, bytes))
    (hzs : z.cells.size = size) (hsz : 0 < size) (v : Value) (n : Nat) (xs : List Value) (hs : a.eval s = v) (hown : w.ownsRow base e size v n xs)
    (A : Option Addr) (m c : Nat) (news : List Value) (hx : a.eval x = .slice A m c) (hl : news.length = m * size) (hr : Rd w A news) (h1 : ∀ u ∈ news, u.oneCell' = true)
    (h63 : n + m ≤ maxLen) (hbytes : (n + m) * bytes ≤ 140737488355328) (hbase : base ≤ w.heap.size)
    (h : ∀ v' w', w'.ownsRow base e size v' (n + m) (xs ++ news) → w.grownBy w' v.ownBlock → (v'.ownBlock = v.ownBlock ∨ v'.ownBlock = some w.heap.size) → K (a.put o.dst v') w') :
    if Region.wanted o (yielded ops a.tmps) = true then Oper.wp P o a w K Q else E := by
  have hw : Region.wanted o (yielded ops a.tmps) = true := by simp [Region.wanted, hgd]
  rw [if_pos hw]
  exact wp_app w s x t ho base e z size bytes ht hinfo hzs hsz v n xs hs hown A m c news hx hl hr h1 h63 hbytes hbase h
theorem rd_at {w : World} {b b' : Nat} {cs : List Value} (e : b = b') (h : Rd w (some ⟨b, 0, none⟩) cs) : Rd w (some ⟨b', 0, none⟩) cs := by subst e; exact h
theorem own_formS5 {w : World} {base e size n : Nat} {v : Value} {cs : List Value} (h : w.ownsRow base e size v n cs) (hn : 0 < n) : ∃ G C, v = .slice (some ⟨G, 0, none⟩) n C := by
  rcases h.2 with ⟨_, h0⟩ | ⟨g, cap, cur, hv, _⟩
  · omega
  · exact ⟨g, cap, hv⟩
theorem own_at5 {w : World} {base e n c : Nat} {A : Option Addr} {xs : List R5} {x : R5} (h : w.ownsRow base e 5 (.slice A (xs.length + 1) c) (xs.length + 1) (cells5 (xs ++ [x]))) :
    ∃ g o, A = some ⟨g, o, none⟩ ∧ g < w.heap.size ∧ w.cell? ⟨g, o + xs.length * 5, none⟩ = some (.int .i64 x.a) ∧ w.cell? ⟨g, o + xs.length * 5 + 1, none⟩ = some (.int .i64 x.b) ∧ w.cell? ⟨g, o + xs.length * 5 + 2, none⟩ = some (.int .i64 x.c) ∧ w.cell? ⟨g, o + xs.length * 5 + 3, none⟩ = some (.int .i64 x.d) ∧ w.cell? ⟨g, o + xs.length * 5 + 4, none⟩ = some (.int .i64 x.e) :=
  (Rd.of_own h).at5 (by simp)

set_option maxRecDepth 20000 in
set_option maxHeartbeats 16000000 in
theorem rates_any (p k : Nat) (u : Cu) (w : World) (h : CurB w p u k) (hk : k ≤ 600000) :
    Calls Try.prog 18 #[.pointer (some ⟨p, 0, none⟩)] w (RetCL 61 19 p u k 900 w) := by
  have PK := Lib.hid (fun k m w h hk hm hm2 => pick_any p k m u w h hk hm hm2)
  have ON := Lib.hid (fun k m w h hk hm hm2 => one_any p k m u w h hk hm hm2)
  have AM := Lib.hid (fun k n c A zs w h hk hz hn hn2 hA hf => among_any p k n c u A zs w h hk hz hn hn2 hA hf)
  have RT := Lib.hid (fun k a b d w h hk hd => rate_any p k u a b d w h hk hd)
  have HC := Lib.hid h
  have hp := h.lt
  clear h
  go_enter Try.func18, Try.ntmps18
  go_wp2_with fail
  have HL0 : Hid (LRel w 61 p u [] (.slice (some ⟨w.heap.size, 0, none⟩) 0 0) k (w.alloc (.cells #[] 61))) := Lib.hid ⟨own_empty w _ _ _ (Nat.le_refl _), HC.out.alloc _, World.grownBy_alloc w _ _⟩
  clear HC
  go_loopw [3, 4, 5, 6] (fun v i _ _ wr => ∃ (j : Nat) (xs : List R5) (kk : Nat), i = .int .i64 j ∧ j ≤ 3 ∧ xs.length ≤ 6 * j ∧ kk ≤ k + 180 * j ∧ LRel w 61 p u xs v kk wr) (fun _ i _ _ _ => 10 - (intOf i).toNat)
  case atStart => exact ⟨0, [], k, rfl, by omega, by simp, by omega, HL0.out⟩
  case round =>
    clear HL0
    obtain ⟨wO, hwO⟩ : ∃ x, x = wr := ⟨wr, rfl⟩
    subst hwO
    obtain ⟨j, xs0, kk0, rfl, hj, hx0, hkk0, hL⟩ := hrel
    have HL := Lib.hid hL
    clear hL
    by_cases hj3 : j < 3
    · have hj3' : (j : Int) < 3 := by omega
      go_wp2_with fail
      go_loopw [3, 5, 6] (fun v i _ wr => ∃ (q : Nat) (xs : List R5) (kk : Nat), i = .int .i64 q ∧ q ≤ 3 ∧ xs.length ≤ 6 * j + 2 * q ∧ kk ≤ k + 180 * j + 60 * q ∧ LRel w 61 p u xs v kk wr) (fun _ i _ _ => 10 - (intOf i).toNat)
      case atStart => exact ⟨0, xs0, kk0, rfl, by omega, by omega, by omega, HL.out⟩
      case round =>
        clear HL hkk0 hx0
        obtain ⟨wI, hwI⟩ : ∃ x, x = wr := ⟨wr, rfl⟩
        subst hwI
        obtain ⟨q, xs, kk, rfl, hq3, hx, hkk, hL⟩ := hrel
        obtain ⟨A, c, rfl⟩ := own_form hL.own
        have HL := Lib.hid hL
        clear hL
        by_cases hq : q < 3
        · have hq' : (q : Int) < 3 := by omega
          have hq0 : (0 : Int) ≤ (q : Int) := by omega
          go_wp2_with fail
          refine (ON.out kk 2 _ HL.out.cur (by omega) (by decide) (by decide)).mono ?_
          rintro e w2 ⟨vw2, k2, rfl, ⟨bw2, rfl⟩, hk2, hc, hg⟩
          have HL2 := Lib.hid (HL.out.call hp hc hg)
          clear hc hg HL
          cases bw2 with
          | false =>
            go_wp2
            go_roundw
            case rel => exact ⟨q + 1, xs, k2, by go_num, by omega, by omega, by omega, HL2.out⟩
            case measure => simp [intOf]; omega
          | true =>
            obtain ⟨gv, hgv⟩ : ∃ gv : Int, ([20, 50, 100] : List Int)[q]? = some gv := ⟨_, List.getElem?_eq_getElem (by simp; omega)⟩
            have hgl : [Value.int .i64 20, .int .i64 50, .int .i64 100][q]? = some (.int .i64 gv) := by
              have h : (cells1 [20, 50, 100])[q]? = some (.int .i64 gv) := by rw [cells1, List.getElem?_map, hgv]; rfl
              exact h
            have hga : (#[Value.int .i64 20, .int .i64 50, .int .i64 100] : Array Value)[q]? = some (.int .i64 gv) := by simpa using hgl
            clear hgv
            have hw2p := HL2.out.cur.lt
            have LB : Hid (LRel w 61 p u xs (.slice A xs.length c) k2 (w2.alloc (.cells #[.int .i64 0, .int .i64 0, .int .i64 5] 3)).drew) := Lib.hid (HL2.out.below ((Below.refl w2.heap.size w2).alloc (Nat.le_refl _) (.cells #[.int .i64 0, .int .i64 0, .int .i64 5] 3)).drew)
            have LAB : Hid (LRel w 61 p u xs (.slice A xs.length c) k2 ((w2.alloc (.cells #[.int .i64 20, .int .i64 50, .int .i64 100] 3)).alloc (.cells #[.int .i64 0, .int .i64 0, .int .i64 5] 3)).drew) := Lib.hid (HL2.out.below (((Below.refl w2.heap.size w2).alloc (Nat.le_refl _) (.cells #[.int .i64 20, .int .i64 50, .int .i64 100] 3)).alloc (by simp) (.cells #[.int .i64 0, .int .i64 0, .int .i64 5] 3)).drew)
            have LBA : Hid (LRel w 61 p u xs (.slice A xs.length c) k2 ((w2.alloc (.cells #[.int .i64 0, .int .i64 0, .int .i64 5] 3)).alloc (.cells #[.int .i64 20, .int .i64 50, .int .i64 100] 3)).drew) := Lib.hid (HL2.out.below (((Below.refl w2.heap.size w2).alloc (Nat.le_refl _) (.cells #[.int .i64 0, .int .i64 0, .int .i64 5] 3)).alloc (by simp) (.cells #[.int .i64 20, .int .i64 50, .int .i64 100] 3)).drew)
            have RB : Hid (Rd (w2.alloc (.cells #[.int .i64 0, .int .i64 0, .int .i64 5] 3)).drew (some ⟨w2.heap.size, 0, none⟩) (cells1 [0, 0, 5])) := Lib.hid (rd_ints (w := w2) [0, 0, 5] 3).drew
            have RAB : Hid (Rd ((w2.alloc (.cells #[.int .i64 20, .int .i64 50, .int .i64 100] 3)).alloc (.cells #[.int .i64 0, .int .i64 0, .int .i64 5] 3)).drew (some ⟨w2.heap.size + 1, 0, none⟩) (cells1 [0, 0, 5])) := Lib.hid (rd_at (by simp) (rd_ints (w := (w2.alloc (.cells #[.int .i64 20, .int .i64 50, .int .i64 100] 3))) [0, 0, 5] 3)).drew
            have RBA : Hid (Rd ((w2.alloc (.cells #[.int .i64 0, .int .i64 0, .int .i64 5] 3)).alloc (.cells #[.int .i64 20, .int .i64 50, .int .i64 100] 3)).drew (some ⟨w2.heap.size, 0, none⟩) (cells1 [0, 0, 5])) := Lib.hid ((rd_ints (w := w2) [0, 0, 5] 3).alloc _).drew
            have YAB : ((w2.alloc (.cells #[.int .i64 20, .int .i64 50, .int .i64 100] 3)).alloc (.cells #[.int .i64 0, .int .i64 0, .int .i64 5] 3)).drew.cell? ⟨w2.heap.size, q, none⟩ = some (.int .i64 gv) := by rw [show ((w2.alloc (.cells #[.int .i64 20, .int .i64 50, .int .i64 100] 3)).alloc (.cells #[.int .i64 0, .int .i64 0, .int .i64 5] 3)).drew.cell? ⟨w2.heap.size, q, none⟩ = (w2.alloc (.cells #[.int .i64 20, .int .i64 50, .int .i64 100] 3)).cell? ⟨w2.heap.size, q, none⟩ from World.cell?_alloc_lt _ _ _ (by simp)]; exact (World.cell?_alloc_at _ _ _ _ rfl).trans hga
            have YBA : ((w2.alloc (.cells #[.int .i64 0, .int .i64 0, .int .i64 5] 3)).alloc (.cells #[.int .i64 20, .int .i64 50, .int .i64 100] 3)).drew.cell? ⟨w2.heap.size + 1, q, none⟩ = some (.int .i64 gv) := (World.cell?_alloc_at (w := (w2.alloc (.cells #[.int .i64 0, .int .i64 0, .int .i64 5] 3))) _ _ _ _ (by simp)).trans hga
            go_upto_region 9 with fail
            go_cut [3] from 12 to 57 (fun v wx => ∃ (ys : List R5) (x5 : R5) (k5 g6 c6 : Nat), v = .slice (some ⟨g6, 0, none⟩) ys.length c6 ∧ ys.length = xs.length + 1 ∧ ys[xs.length]? = some x5 ∧ k5 ≤ k2 + 20 ∧ -1 ≤ x5.d ∧ LRel w 61 p u ys (.slice (some ⟨g6, 0, none⟩) ys.length c6) k5 wx)
            case first =>
              have YA : (w2.alloc (.cells #[.int .i64 20, .int .i64 50, .int .i64 100] 3)).drew.cell? ⟨w2.heap.size, q, none⟩ = some (.int .i64 gv) := (World.cell?_alloc_at (w := w2) _ _ _ _ rfl).trans hga
              refine wp_region_held_drew (S := fun _ => True) (by kernel_rfl) trivial (fun _ => ?_)
              refine wpAnyH_take (i := 0) (v := .slice A xs.length c) rfl (by kernel_rfl) (by kernel_rfl) (by kernel_rfl) (fun _ _ _ h => h) (Or.inl ⟨by rfl, ?_⟩) trivial ?_
              · (intro wS hSw; (try dsimp only at hSw); (try simp only [List.getElem_toArray, List.getElem_cons_succ, List.getElem_cons_zero, Act.put, List.setIfInBounds_toArray, List.set_cons_zero, List.set_cons_succ]); go_simp)
              try simp only [List.getElem_toArray, List.getElem_cons_succ, List.getElem_cons_zero, Act.put, List.setIfInBounds_toArray, List.set_cons_zero, List.set_cons_succ]
              refine wpAnyH_take (i := 1) (v := .pointer (some ⟨p, 0, none⟩)) rfl (by kernel_rfl) (by kernel_rfl) (by kernel_rfl) (fun _ _ _ h => h) (Or.inl ⟨by rfl, ?_⟩) trivial ?_
              · (intro wS hSw; (try dsimp only at hSw); (try simp only [List.getElem_toArray, List.getElem_cons_succ, List.getElem_cons_zero, Act.put, List.setIfInBounds_toArray, List.set_cons_zero, List.set_cons_succ]); go_simp)
              try simp only [List.getElem_toArray, List.getElem_cons_succ, List.getElem_cons_zero, Act.put, List.setIfInBounds_toArray, List.set_cons_zero, List.set_cons_succ]
              refine wpAnyH_take (i := 2) (v := .int .i64 j) rfl (by kernel_rfl) (by kernel_rfl) (by kernel_rfl) (fun _ _ _ h => h) (Or.inl ⟨by rfl, ?_⟩) trivial ?_
              · (intro wS hSw; (try dsimp only at hSw); (try simp only [List.getElem_toArray, List.getElem_cons_succ, List.getElem_cons_zero, Act.put, List.setIfInBounds_toArray, List.set_cons_zero, List.set_cons_succ]); go_simp)
              try simp only [List.getElem_toArray, List.getElem_cons_succ, List.getElem_cons_zero, Act.put, List.setIfInBounds_toArray, List.set_cons_zero, List.set_cons_succ]
              refine wpAnyH_take (i := 4) (v := .int .i64 q) rfl (by kernel_rfl) (by kernel_rfl) (by kernel_rfl) (fun _ _ _ h => h) (Or.inl ⟨by rfl, ?_⟩) trivial ?_
              · (intro wS hSw; (try dsimp only at hSw); (try simp only [List.getElem_toArray, List.getElem_cons_succ, List.getElem_cons_zero, Act.put, List.setIfInBounds_toArray, List.set_cons_zero, List.set_cons_succ]); go_simp)
              try simp only [List.getElem_toArray, List.getElem_cons_succ, List.getElem_cons_zero, Act.put, List.setIfInBounds_toArray, List.set_cons_zero, List.set_cons_succ]
              refine wpAnyH_take (i := 7) (v := .pointer (some ⟨p, 0, none⟩)) rfl (by kernel_rfl) (by kernel_rfl) (by kernel_rfl) (fun _ _ _ h => h) (Or.inl ⟨by rfl, ?_⟩) trivial ?_
              · (intro wS hSw; (try dsimp only at hSw); (try simp only [List.getElem_toArray, List.getElem_cons_succ, List.getElem_cons_zero, Act.put, List.setIfInBounds_toArray, List.set_cons_zero, List.set_cons_succ]); go_simp)
              try simp only [List.getElem_toArray, List.getElem_cons_succ, List.getElem_cons_zero, Act.put, List.setIfInBounds_toArray, List.set_cons_zero, List.set_cons_succ]
              refine wpAnyH_ready (rs := [3, 8]) (by kernel_rfl) (by simp) ?_
              refine AllReadyH.cons rfl (fun K hK => ?_) ?_
              · (try simp only [List.getElem_toArray, List.getElem_cons_succ, List.getElem_cons_zero, Act.put, List.setIfInBounds_toArray, List.set_cons_zero, List.set_cons_succ]); go_simp
                refine hK.out _ _ trivial (fun hHeld => ?_)
                clear hK K
                try simp only [List.getElem_toArray, List.getElem_cons_succ, List.getElem_cons_zero, Act.put, List.setIfInBounds_toArray, List.set_cons_zero, List.set_cons_succ]
                refine wpAnyH_take (i := 5) (v := .pointer (some ⟨w2.heap.size, q, none⟩)) rfl (by kernel_rfl) (by kernel_rfl) (by kernel_rfl) (fun _ _ _ h => h) (Or.inl ⟨by rfl, ?_⟩) trivial ?_
                · (intro wS hSw; (try dsimp only at hSw); (try simp only [List.getElem_toArray, List.getElem_cons_succ, List.getElem_cons_zero, Act.put, List.setIfInBounds_toArray, List.set_cons_zero, List.set_cons_succ]); go_simp)
                try simp only [List.getElem_toArray, List.getElem_cons_succ, List.getElem_cons_zero, Act.put, List.setIfInBounds_toArray, List.set_cons_zero, List.set_cons_succ]
                refine wpAnyH_weaken (S' := fun w' => w'.cell? ⟨w2.heap.size, q, none⟩ = some (.int .i64 gv)) (fun _ _ => trivial) _ _ _ _ ?_
                refine wpAnyH_take (i := 6) (v := .int .i64 gv) rfl (by kernel_rfl) (by kernel_rfl) (by kernel_rfl) (fun _ _ _ h => h) (Or.inl ⟨by rfl, ?_⟩) YA ?_
                · (intro wS hSw; (try dsimp only at hSw); (try simp only [List.getElem_toArray, List.getElem_cons_succ, List.getElem_cons_zero, Act.put, List.setIfInBounds_toArray, List.set_cons_zero, List.set_cons_succ]); go_simp)
                try simp only [List.getElem_toArray, List.getElem_cons_succ, List.getElem_cons_zero, Act.put, List.setIfInBounds_toArray, List.set_cons_zero, List.set_cons_succ]
                refine wpAnyH_ready (rs := [8]) (by kernel_rfl) (by simp) ?_
                refine AllReadyH.cons rfl (fun K hK => ?_) ?_
                · (try simp only [List.getElem_toArray, List.getElem_cons_succ, List.getElem_cons_zero, Act.put, List.setIfInBounds_toArray, List.set_cons_zero, List.set_cons_succ]); go_simp
                  refine hK.out _ _ YAB (fun hHeld => ?_)
                  clear hK K
                  try simp only [List.getElem_toArray, List.getElem_cons_succ, List.getElem_cons_zero, Act.put, List.setIfInBounds_toArray, List.set_cons_zero, List.set_cons_succ]
                  refine wpAnyH_ready (rs := [9]) (by kernel_rfl) (by simp) ?_
                  refine AllReadyH.cons rfl (fun K hK => ?_) ?_
                  · (try simp only [List.getElem_toArray, List.getElem_cons_succ, List.getElem_cons_zero, Act.put, List.setIfInBounds_toArray, List.set_cons_zero, List.set_cons_succ]); go_simp
                    go_at_call 29
                    refine (AM.out k2 3 _ (some ⟨w2.heap.size + 1, 0, none⟩) [0, 0, 5] _ (by with_reducible exact LAB.out.cur) (by omega) rfl (by decide) (by decide) (by with_reducible exact RAB.out) (fun g o q e => by injection e with e; injection e with e; omega)).mono ?_
                    rintro e w4 ⟨v4, k4, rfl, ⟨z4, m4, rfl⟩, hk4, hc, hg⟩
                    have HL4 := Lib.hid (LAB.out.call hp hc hg)
                    have hz4 : 0 ≤ z4 ∧ z4 ≤ 5 := (by simp at m4; omega)
                    have yA : w4.cell? ⟨w2.heap.size, q, none⟩ = some (.int .i64 gv) := (hg.cell_far ⟨w2.heap.size, q, none⟩ (by simp <;> omega) (by simp; omega)).trans YAB
                    clear m4 hc hg
                    (try go_simp)
                    refine hK.out _ _ yA (fun hHeld => ?_)
                    clear hK K
                    try simp only [List.getElem_toArray, List.getElem_cons_succ, List.getElem_cons_zero, Act.put, List.setIfInBounds_toArray, List.set_cons_zero, List.set_cons_succ]
                    refine wpAnyH_ready (rs := [10]) (by kernel_rfl) (by simp) ?_
                    refine AllReadyH.cons rfl (fun K hK => ?_) ?_
                    · (try simp only [List.getElem_toArray, List.getElem_cons_succ, List.getElem_cons_zero, Act.put, List.setIfInBounds_toArray, List.set_cons_zero, List.set_cons_succ]); go_simp
                      go_at_call 38
                      refine (RT.out k4 _ _ _ _ (by with_reducible exact HL4.out.cur) (by omega) (by omega)).mono ?_
                      rintro e w5 ⟨v5, k5, rfl, ⟨x5, rfl, hx5⟩, hk5, hc, hg⟩
                      have HL5 := Lib.hid (HL4.out.call hp hc hg)
                      have yB : w5.cell? ⟨w2.heap.size, q, none⟩ = some (.int .i64 gv) := (hg.cell_far ⟨w2.heap.size, q, none⟩ (World.block_lt_of_cell? _ ⟨w2.heap.size, q, none⟩ yA) (by simp; omega)).trans yA
                      clear hc hg
                      (try go_simp)
                      refine hK.out _ _ yB (fun hHeld => ?_)
                      clear hK K
                      try simp only [List.getElem_toArray, List.getElem_cons_succ, List.getElem_cons_zero, Act.put, List.setIfInBounds_toArray, List.set_cons_zero, List.set_cons_succ]
                      refine wpAnyH_ready (rs := [11]) (by kernel_rfl) (by simp) ?_
                      refine AllReadyH.cons rfl (fun K hK => ?_) ?_
                      · have yC : (w5.alloc (.cells #[.int .i64 x5.a, .int .i64 x5.b, .int .i64 x5.c, .int .i64 x5.d, .int .i64 x5.e] 61)).cell? ⟨w2.heap.size, q, none⟩ = some (.int .i64 gv) := (World.cell?_alloc_lt _ _ _ (World.block_lt_of_cell? _ ⟨w2.heap.size, q, none⟩ yB)).trans yB
                        (try simp only [List.getElem_toArray, List.getElem_cons_succ, List.getElem_cons_zero, Act.put, List.setIfInBounds_toArray, List.set_cons_zero, List.set_cons_succ]); go_simp
                        refine hK.out _ _ yC (fun hHeld => ?_)
                        clear hK K
                        try simp only [List.getElem_toArray, List.getElem_cons_succ, List.getElem_cons_zero, Act.put, List.setIfInBounds_toArray, List.set_cons_zero, List.set_cons_succ]
                        refine wpAnyH_ready (rs := [12]) (by kernel_rfl) (by simp) ?_
                        refine AllReadyH.cons rfl (fun K hK => ?_) ?_
                        · refine step_app rfl (.tmp 18) (.tmp 29) 24 rfl w.heap.size 61 _ 5 40 Try.underlying24 info61 rfl (by omega) (.slice A xs.length c) xs.length (cells5 xs) (by simp [Act.eval, Act.put]) (HL5.out.below ((Below.refl _ _).alloc (Nat.le_refl _) (.cells #[.int .i64 x5.a, .int .i64 x5.b, .int .i64 x5.c, .int .i64 x5.d, .int .i64 x5.e] 61))).own (some ⟨w5.heap.size, 0, none⟩) 1 1 x5.cells (by simp [Act.eval, Act.put]) rfl (rd_new #[.int .i64 x5.a, .int .i64 x5.b, .int .i64 x5.c, .int .i64 x5.d, .int .i64 x5.e] 61 rfl) (oneCell_1 x5) (by unfold maxLen; omega) (by omega) (by have := HL5.out.sz; simp; omega) ?_
                          intro v6 w6 o6 g6 _
                          have HL6 := Lib.hid (HL5.out.push (x := x5) hp ((Below.refl _ _).alloc (Nat.le_refl _) (.cells #[.int .i64 x5.a, .int .i64 x5.b, .int .i64 x5.c, .int .i64 x5.d, .int .i64 x5.e] 61)) o6 g6)
                          have yD : w6.cell? ⟨w2.heap.size, q, none⟩ = some (.int .i64 gv) := (g6.cell_far ⟨w2.heap.size, q, none⟩ (World.block_lt_of_cell? _ ⟨w2.heap.size, q, none⟩ yC) (fun e => absurd (HL2.out.own.lt _ e.symm).2 (by first | (simp; done) | omega))).trans yC
                          clear g6 o6
                          refine hK.out _ _ yD (fun hHeld => ?_)
                          clear hK K
                          try simp only [List.getElem_toArray, List.getElem_cons_succ, List.getElem_cons_zero, Act.put, List.setIfInBounds_toArray, List.set_cons_zero, List.set_cons_succ]
                          refine wpAnyH_ready (rs := [13]) (by kernel_rfl) (by simp) ?_
                          refine AllReadyH.cons rfl (fun K hK => ?_) ?_
                          · (try simp only [List.getElem_toArray, List.getElem_cons_succ, List.getElem_cons_zero, Act.put, List.setIfInBounds_toArray, List.set_cons_zero, List.set_cons_succ]); go_simp
                            refine hK.out _ _ yD (fun hHeld => ?_)
                            clear hK K
                            try simp only [List.getElem_toArray, List.getElem_cons_succ, List.getElem_cons_zero, Act.put, List.setIfInBounds_toArray, List.set_cons_zero, List.set_cons_succ]
                            refine wpAnyH_done (by kernel_rfl) ?_ _
                            obtain ⟨g6, c6, rfl⟩ := own_formS5 HL6.out.own (by simp)
                            have HX6 := Lib.hid (hx5 (by omega))
                            obtain ⟨ys, hys⟩ : ∃ ys, ys = xs ++ [x5] := ⟨_, rfl⟩
                            rw [← hys] at HL6 ⊢
                            have h1 : ys.length = xs.length + 1 := by rw [hys]; simp
                            have h2 : ys[xs.length]? = some x5 := by rw [hys]; simp
                            have H1 := Lib.hid h1
                            have H2 := Lib.hid h2
                            clear hys h1 h2 hx5
                            go_wp2_with fail
                            go_meet
                            case rel => exact ⟨ys, x5, k5, g6, c6, rfl, H1.out, H2.out, by omega, HX6.out, HL6.out⟩
                          exact AllReadyH.nil
                        exact AllReadyH.nil
                      exact AllReadyH.nil
                    exact AllReadyH.nil
                  exact AllReadyH.nil
                exact AllReadyH.nil
              refine AllReadyH.cons rfl (fun K hK => ?_) ?_
              · (try simp only [List.getElem_toArray, List.getElem_cons_succ, List.getElem_cons_zero, Act.put, List.setIfInBounds_toArray, List.set_cons_zero, List.set_cons_succ]); go_simp
                refine hK.out _ _ trivial (fun hHeld => ?_)
                clear hK K
                try simp only [List.getElem_toArray, List.getElem_cons_succ, List.getElem_cons_zero, Act.put, List.setIfInBounds_toArray, List.set_cons_zero, List.set_cons_succ]
                refine wpAnyH_ready (rs := [3, 9]) (by kernel_rfl) (by simp) ?_
                refine AllReadyH.cons rfl (fun K hK => ?_) ?_
                · (try simp only [List.getElem_toArray, List.getElem_cons_succ, List.getElem_cons_zero, Act.put, List.setIfInBounds_toArray, List.set_cons_zero, List.set_cons_succ]); go_simp
                  refine hK.out _ _ trivial (fun hHeld => ?_)
                  clear hK K
                  try simp only [List.getElem_toArray, List.getElem_cons_succ, List.getElem_cons_zero, Act.put, List.setIfInBounds_toArray, List.set_cons_zero, List.set_cons_succ]
                  refine wpAnyH_take (i := 5) (v := .pointer (some ⟨w2.heap.size + 1, q, none⟩)) rfl (by kernel_rfl) (by kernel_rfl) (by kernel_rfl) (fun _ _ _ h => h) (Or.inl ⟨by rfl, ?_⟩) trivial ?_
                  · (intro wS hSw; (try dsimp only at hSw); (try simp only [List.getElem_toArray, List.getElem_cons_succ, List.getElem_cons_zero, Act.put, List.setIfInBounds_toArray, List.set_cons_zero, List.set_cons_succ]); go_simp)
                  try simp only [List.getElem_toArray, List.getElem_cons_succ, List.getElem_cons_zero, Act.put, List.setIfInBounds_toArray, List.set_cons_zero, List.set_cons_succ]
                  refine wpAnyH_weaken (S' := fun w' => w'.cell? ⟨w2.heap.size + 1, q, none⟩ = some (.int .i64 gv)) (fun _ _ => trivial) _ _ _ _ ?_
                  refine wpAnyH_take (i := 6) (v := .int .i64 gv) rfl (by kernel_rfl) (by kernel_rfl) (by kernel_rfl) (fun _ _ _ h => h) (Or.inl ⟨by rfl, ?_⟩) YBA ?_
                  · (intro wS hSw; (try dsimp only at hSw); (try simp only [List.getElem_toArray, List.getElem_cons_succ, List.getElem_cons_zero, Act.put, List.setIfInBounds_toArray, List.set_cons_zero, List.set_cons_succ]); go_simp)
                  try simp only [List.getElem_toArray, List.getElem_cons_succ, List.getElem_cons_zero, Act.put, List.setIfInBounds_toArray, List.set_cons_zero, List.set_cons_succ]
                  refine wpAnyH_ready (rs := [9]) (by kernel_rfl) (by simp) ?_
                  refine AllReadyH.cons rfl (fun K hK => ?_) ?_
                  · (try simp only [List.getElem_toArray, List.getElem_cons_succ, List.getElem_cons_zero, Act.put, List.setIfInBounds_toArray, List.set_cons_zero, List.set_cons_succ]); go_simp
                    go_at_call 29
                    refine (AM.out k2 3 _ (some ⟨w2.heap.size, 0, none⟩) [0, 0, 5] _ (by with_reducible exact LBA.out.cur) (by omega) rfl (by decide) (by decide) (by with_reducible exact RBA.out) (fun g o q e => by injection e with e; injection e with e; omega)).mono ?_
                    rintro e w4 ⟨v4, k4, rfl, ⟨z4, m4, rfl⟩, hk4, hc, hg⟩
                    have HL4 := Lib.hid (LBA.out.call hp hc hg)
                    have hz4 : 0 ≤ z4 ∧ z4 ≤ 5 := (by simp at m4; omega)
                    have yA : w4.cell? ⟨w2.heap.size + 1, q, none⟩ = some (.int .i64 gv) := (hg.cell_far ⟨w2.heap.size + 1, q, none⟩ (by simp <;> omega) (by simp; omega)).trans YBA
                    clear m4 hc hg
                    (try go_simp)
                    refine hK.out _ _ yA (fun hHeld => ?_)
                    clear hK K
                    try simp only [List.getElem_toArray, List.getElem_cons_succ, List.getElem_cons_zero, Act.put, List.setIfInBounds_toArray, List.set_cons_zero, List.set_cons_succ]
                    refine wpAnyH_ready (rs := [10]) (by kernel_rfl) (by simp) ?_
                    refine AllReadyH.cons rfl (fun K hK => ?_) ?_
                    · (try simp only [List.getElem_toArray, List.getElem_cons_succ, List.getElem_cons_zero, Act.put, List.setIfInBounds_toArray, List.set_cons_zero, List.set_cons_succ]); go_simp
                      go_at_call 38
                      refine (RT.out k4 _ _ _ _ (by with_reducible exact HL4.out.cur) (by omega) (by omega)).mono ?_
                      rintro e w5 ⟨v5, k5, rfl, ⟨x5, rfl, hx5⟩, hk5, hc, hg⟩
                      have HL5 := Lib.hid (HL4.out.call hp hc hg)
                      have yB : w5.cell? ⟨w2.heap.size + 1, q, none⟩ = some (.int .i64 gv) := (hg.cell_far ⟨w2.heap.size + 1, q, none⟩ (World.block_lt_of_cell? _ ⟨w2.heap.size + 1, q, none⟩ yA) (by simp; omega)).trans yA
                      clear hc hg
                      (try go_simp)
                      refine hK.out _ _ yB (fun hHeld => ?_)
                      clear hK K
                      try simp only [List.getElem_toArray, List.getElem_cons_succ, List.getElem_cons_zero, Act.put, List.setIfInBounds_toArray, List.set_cons_zero, List.set_cons_succ]
                      refine wpAnyH_ready (rs := [11]) (by kernel_rfl) (by simp) ?_
                      refine AllReadyH.cons rfl (fun K hK => ?_) ?_
                      · have yC : (w5.alloc (.cells #[.int .i64 x5.a, .int .i64 x5.b, .int .i64 x5.c, .int .i64 x5.d, .int .i64 x5.e] 61)).cell? ⟨w2.heap.size + 1, q, none⟩ = some (.int .i64 gv) := (World.cell?_alloc_lt _ _ _ (World.block_lt_of_cell? _ ⟨w2.heap.size + 1, q, none⟩ yB)).trans yB
                        (try simp only [List.getElem_toArray, List.getElem_cons_succ, List.getElem_cons_zero, Act.put, List.setIfInBounds_toArray, List.set_cons_zero, List.set_cons_succ]); go_simp
                        refine hK.out _ _ yC (fun hHeld => ?_)
                        clear hK K
                        try simp only [List.getElem_toArray, List.getElem_cons_succ, List.getElem_cons_zero, Act.put, List.setIfInBounds_toArray, List.set_cons_zero, List.set_cons_succ]
                        refine wpAnyH_ready (rs := [12]) (by kernel_rfl) (by simp) ?_
                        refine AllReadyH.cons rfl (fun K hK => ?_) ?_
                        · refine step_app rfl (.tmp 18) (.tmp 29) 24 rfl w.heap.size 61 _ 5 40 Try.underlying24 info61 rfl (by omega) (.slice A xs.length c) xs.length (cells5 xs) (by simp [Act.eval, Act.put]) (HL5.out.below ((Below.refl _ _).alloc (Nat.le_refl _) (.cells #[.int .i64 x5.a, .int .i64 x5.b, .int .i64 x5.c, .int .i64 x5.d, .int .i64 x5.e] 61))).own (some ⟨w5.heap.size, 0, none⟩) 1 1 x5.cells (by simp [Act.eval, Act.put]) rfl (rd_new #[.int .i64 x5.a, .int .i64 x5.b, .int .i64 x5.c, .int .i64 x5.d, .int .i64 x5.e] 61 rfl) (oneCell_1 x5) (by unfold maxLen; omega) (by omega) (by have := HL5.out.sz; simp; omega) ?_
                          intro v6 w6 o6 g6 _
                          have HL6 := Lib.hid (HL5.out.push (x := x5) hp ((Below.refl _ _).alloc (Nat.le_refl _) (.cells #[.int .i64 x5.a, .int .i64 x5.b, .int .i64 x5.c, .int .i64 x5.d, .int .i64 x5.e] 61)) o6 g6)
                          have yD : w6.cell? ⟨w2.heap.size + 1, q, none⟩ = some (.int .i64 gv) := (g6.cell_far ⟨w2.heap.size + 1, q, none⟩ (World.block_lt_of_cell? _ ⟨w2.heap.size + 1, q, none⟩ yC) (fun e => absurd (HL2.out.own.lt _ e.symm).2 (by first | (simp; done) | omega))).trans yC
                          clear g6 o6
                          refine hK.out _ _ yD (fun hHeld => ?_)
                          clear hK K
                          try simp only [List.getElem_toArray, List.getElem_cons_succ, List.getElem_cons_zero, Act.put, List.setIfInBounds_toArray, List.set_cons_zero, List.set_cons_succ]
                          refine wpAnyH_ready (rs := [13]) (by kernel_rfl) (by simp) ?_
                          refine AllReadyH.cons rfl (fun K hK => ?_) ?_
                          · (try simp only [List.getElem_toArray, List.getElem_cons_succ, List.getElem_cons_zero, Act.put, List.setIfInBounds_toArray, List.set_cons_zero, List.set_cons_succ]); go_simp
                            refine hK.out _ _ yD (fun hHeld => ?_)
                            clear hK K
                            try simp only [List.getElem_toArray, List.getElem_cons_succ, List.getElem_cons_zero, Act.put, List.setIfInBounds_toArray, List.set_cons_zero, List.set_cons_succ]
                            refine wpAnyH_done (by kernel_rfl) ?_ _
                            obtain ⟨g6, c6, rfl⟩ := own_formS5 HL6.out.own (by simp)
                            have HX6 := Lib.hid (hx5 (by omega))
                            obtain ⟨ys, hys⟩ : ∃ ys, ys = xs ++ [x5] := ⟨_, rfl⟩
                            rw [← hys] at HL6 ⊢
                            have h1 : ys.length = xs.length + 1 := by rw [hys]; simp
                            have h2 : ys[xs.length]? = some x5 := by rw [hys]; simp
                            have H1 := Lib.hid h1
                            have H2 := Lib.hid h2
                            clear hys h1 h2 hx5
                            go_wp2_with fail
                            go_meet
                            case rel => exact ⟨ys, x5, k5, g6, c6, rfl, H1.out, H2.out, by omega, HX6.out, HL6.out⟩
                          exact AllReadyH.nil
                        exact AllReadyH.nil
                      exact AllReadyH.nil
                    exact AllReadyH.nil
                  exact AllReadyH.nil
                refine AllReadyH.cons rfl (fun K hK => ?_) ?_
                · (try simp only [List.getElem_toArray, List.getElem_cons_succ, List.getElem_cons_zero, Act.put, List.setIfInBounds_toArray, List.set_cons_zero, List.set_cons_succ]); go_simp
                  go_at_call 29
                  refine (AM.out k2 3 _ (some ⟨w2.heap.size, 0, none⟩) [0, 0, 5] _ (by with_reducible exact LB.out.cur) (by omega) rfl (by decide) (by decide) (by with_reducible exact RB.out) (fun g o q e => by injection e with e; injection e with e; omega)).mono ?_
                  rintro e w4 ⟨v4, k4, rfl, ⟨z4, m4, rfl⟩, hk4, hc, hg⟩
                  have HL4 := Lib.hid (LB.out.call hp hc hg)
                  have hz4 : 0 ≤ z4 ∧ z4 ≤ 5 := (by simp at m4; omega)
                  clear m4 hc hg
                  (try go_simp)
                  refine hK.out _ _ trivial (fun hHeld => ?_)
                  clear hK K
                  try simp only [List.getElem_toArray, List.getElem_cons_succ, List.getElem_cons_zero, Act.put, List.setIfInBounds_toArray, List.set_cons_zero, List.set_cons_succ]
                  refine wpAnyH_ready (rs := [3]) (by kernel_rfl) (by simp) ?_
                  refine AllReadyH.cons rfl (fun K hK => ?_) ?_
                  · (try simp only [List.getElem_toArray, List.getElem_cons_succ, List.getElem_cons_zero, Act.put, List.setIfInBounds_toArray, List.set_cons_zero, List.set_cons_succ]); go_simp
                    refine hK.out _ _ trivial (fun hHeld => ?_)
                    clear hK K
                    try simp only [List.getElem_toArray, List.getElem_cons_succ, List.getElem_cons_zero, Act.put, List.setIfInBounds_toArray, List.set_cons_zero, List.set_cons_succ]
                    refine wpAnyH_take (i := 5) (v := .pointer (some ⟨w4.heap.size, q, none⟩)) rfl (by kernel_rfl) (by kernel_rfl) (by kernel_rfl) (fun _ _ _ h => h) (Or.inl ⟨by rfl, ?_⟩) trivial ?_
                    · (intro wS hSw; (try dsimp only at hSw); (try simp only [List.getElem_toArray, List.getElem_cons_succ, List.getElem_cons_zero, Act.put, List.setIfInBounds_toArray, List.set_cons_zero, List.set_cons_succ]); go_simp)
                    try simp only [List.getElem_toArray, List.getElem_cons_succ, List.getElem_cons_zero, Act.put, List.setIfInBounds_toArray, List.set_cons_zero, List.set_cons_succ]
                    have Y4 : (w4.alloc (.cells #[.int .i64 20, .int .i64 50, .int .i64 100] 3)).cell? ⟨w4.heap.size, q, none⟩ = some (.int .i64 gv) := (World.cell?_alloc_at _ _ _ _ rfl).trans hga
                    refine wpAnyH_weaken (S' := fun _ => True) (fun _ _ => trivial) _ _ _ _ ?_
                    refine wpAnyH_ready (rs := [6]) (by kernel_rfl) (by simp) ?_
                    refine AllReadyH.cons rfl (fun K hK => ?_) ?_
                    · (try simp only [List.getElem_toArray, List.getElem_cons_succ, List.getElem_cons_zero, Act.put, List.setIfInBounds_toArray, List.set_cons_zero, List.set_cons_succ]); go_simp
                      refine hK.out _ _ trivial (fun hHeld => ?_)
                      clear hK K
                      try simp only [List.getElem_toArray, List.getElem_cons_succ, List.getElem_cons_zero, Act.put, List.setIfInBounds_toArray, List.set_cons_zero, List.set_cons_succ]
                      refine wpAnyH_ready (rs := [10]) (by kernel_rfl) (by simp) ?_
                      refine AllReadyH.cons rfl (fun K hK => ?_) ?_
                      · (try simp only [List.getElem_toArray, List.getElem_cons_succ, List.getElem_cons_zero, Act.put, List.setIfInBounds_toArray, List.set_cons_zero, List.set_cons_succ]); go_simp
                        go_at_call 38
                        refine (RT.out k4 _ _ _ _ (by with_reducible exact (HL4.out.below ((Below.refl _ _).alloc (Nat.le_refl _) (.cells #[.int .i64 20, .int .i64 50, .int .i64 100] 3))).cur) (by omega) (by omega)).mono ?_
                        rintro e w5 ⟨v5, k5, rfl, ⟨x5, rfl, hx5⟩, hk5, hc, hg⟩
                        have HL5 := Lib.hid ((HL4.out.below ((Below.refl _ _).alloc (Nat.le_refl _) (.cells #[.int .i64 20, .int .i64 50, .int .i64 100] 3))).call hp hc hg)
                        clear hc hg
                        (try go_simp)
                        refine hK.out _ _ trivial (fun hHeld => ?_)
                        clear hK K
                        try simp only [List.getElem_toArray, List.getElem_cons_succ, List.getElem_cons_zero, Act.put, List.setIfInBounds_toArray, List.set_cons_zero, List.set_cons_succ]
                        refine wpAnyH_ready (rs := [11]) (by kernel_rfl) (by simp) ?_
                        refine AllReadyH.cons rfl (fun K hK => ?_) ?_
                        · (try simp only [List.getElem_toArray, List.getElem_cons_succ, List.getElem_cons_zero, Act.put, List.setIfInBounds_toArray, List.set_cons_zero, List.set_cons_succ]); go_simp
                          refine hK.out _ _ trivial (fun hHeld => ?_)
                          clear hK K
                          try simp only [List.getElem_toArray, List.getElem_cons_succ, List.getElem_cons_zero, Act.put, List.setIfInBounds_toArray, List.set_cons_zero, List.set_cons_succ]
                          refine wpAnyH_ready (rs := [12]) (by kernel_rfl) (by simp) ?_
                          refine AllReadyH.cons rfl (fun K hK => ?_) ?_
                          · refine step_app rfl (.tmp 18) (.tmp 29) 24 rfl w.heap.size 61 _ 5 40 Try.underlying24 info61 rfl (by omega) (.slice A xs.length c) xs.length (cells5 xs) (by simp [Act.eval, Act.put]) (HL5.out.below ((Below.refl _ _).alloc (Nat.le_refl _) (.cells #[.int .i64 x5.a, .int .i64 x5.b, .int .i64 x5.c, .int .i64 x5.d, .int .i64 x5.e] 61))).own (some ⟨w5.heap.size, 0, none⟩) 1 1 x5.cells (by simp [Act.eval, Act.put]) rfl (rd_new #[.int .i64 x5.a, .int .i64 x5.b, .int .i64 x5.c, .int .i64 x5.d, .int .i64 x5.e] 61 rfl) (oneCell_1 x5) (by unfold maxLen; omega) (by omega) (by have := HL5.out.sz; simp; omega) ?_
                            intro v6 w6 o6 g6 _
                            have HL6 := Lib.hid (HL5.out.push (x := x5) hp ((Below.refl _ _).alloc (Nat.le_refl _) (.cells #[.int .i64 x5.a, .int .i64 x5.b, .int .i64 x5.c, .int .i64 x5.d, .int .i64 x5.e] 61)) o6 g6)
                            clear g6 o6
                            refine hK.out _ _ trivial (fun hHeld => ?_)
                            clear hK K
                            try simp only [List.getElem_toArray, List.getElem_cons_succ, List.getElem_cons_zero, Act.put, List.setIfInBounds_toArray, List.set_cons_zero, List.set_cons_succ]
                            refine wpAnyH_ready (rs := [13]) (by kernel_rfl) (by simp) ?_
                            refine AllReadyH.cons rfl (fun K hK => ?_) ?_
                            · (try simp only [List.getElem_toArray, List.getElem_cons_succ, List.getElem_cons_zero, Act.put, List.setIfInBounds_toArray, List.set_cons_zero, List.set_cons_succ]); go_simp
                              refine hK.out _ _ trivial (fun hHeld => ?_)
                              clear hK K
                              try simp only [List.getElem_toArray, List.getElem_cons_succ, List.getElem_cons_zero, Act.put, List.setIfInBounds_toArray, List.set_cons_zero, List.set_cons_succ]
                              refine wpAnyH_done (by kernel_rfl) ?_ _
                              obtain ⟨g6, c6, rfl⟩ := own_formS5 HL6.out.own (by simp)
                              have HX6 := Lib.hid (hx5 (by omega))
                              obtain ⟨ys, hys⟩ : ∃ ys, ys = xs ++ [x5] := ⟨_, rfl⟩
                              rw [← hys] at HL6 ⊢
                              have h1 : ys.length = xs.length + 1 := by rw [hys]; simp
                              have h2 : ys[xs.length]? = some x5 := by rw [hys]; simp
                              have H1 := Lib.hid h1
                              have H2 := Lib.hid h2
                              clear hys h1 h2 hx5
                              go_wp2_with fail
                              go_meet
                              case rel => exact ⟨ys, x5, k5, g6, c6, rfl, H1.out, H2.out, by omega, HX6.out, HL6.out⟩
                            exact AllReadyH.nil
                          exact AllReadyH.nil
                        exact AllReadyH.nil
                      exact AllReadyH.nil
                    exact AllReadyH.nil
                  exact AllReadyH.nil
                exact AllReadyH.nil
              exact AllReadyH.nil
            case rest =>
              clear LB LAB LBA RB RAB RBA YAB YBA hgl hga
              obtain ⟨ys, x5, k5, g6, c6, rfl, hyl, hyx, hk5, hxd, hL6⟩ := hcut
              have HL6 := Lib.hid hL6
              clear hL6 HL2
              obtain ⟨g9, o9, eA, hg9, y0, y1, y2, y3, y4⟩ := (Rd.of_own HL6.out.own).at5 hyx
              injection eA with eA
              injection eA with eA1 eA2
              subst eA1
              subst eA2
              rw [Nat.zero_add] at y0 y1 y2 y3 y4
              have hyp : (0 : Int) < (ys.length : Int) := by omega
              have hyp2 : 0 < ys.length := by omega
              have hyp3 : (0 : Int) ≤ (ys.length : Int) - 1 := by omega
              have hwl : IntKind.i64.wrap ((ys.length : Int) - 1) = (ys.length : Int) - 1 := IntWalk.i64_in _ (by omega)
              have HYL := Lib.hid hyl
              clear hyx
              rw [hyl] at HL6
              have KX : Hid (Blk (wc.alloc (.cells #[.int .i64 x5.a, .int .i64 x5.b, .int .i64 x5.c, .int .i64 x5.d, .int .i64 x5.e] 61)) wc.heap.size x5.cells) := Lib.hid (Blk.new wc x5.cells 61)
              have HL6b := Lib.hid (HL6.out.below ((Below.refl _ _).alloc (Nat.le_refl _) (.cells #[.int .i64 x5.a, .int .i64 x5.b, .int .i64 x5.c, .int .i64 x5.d, .int .i64 x5.e] 61)))
              have hwcp : p < wc.heap.size := HL6.out.cur.lt
              have hs6 := HL6.out.sz
              have hgw : ¬ wc.heap.size = g6 := by have := (HL6.out.own.lt g6 rfl).2; omega
              clear HL6
              go_wp2_with fail
              refine (ON.out k5 2 _ HL6b.out.cur (by omega) (by decide) (by decide)).mono ?_
              rintro e w7 ⟨v7, k7, rfl, ⟨b7, rfl⟩, hk7, hc, hg⟩
              have HL7 := Lib.hid (HL6b.out.call hp hc hg)
              have KX7 := Lib.hid (KX.out.grown hg (fun e => by injection e with e; omega))
              clear hc hg HL6b KX y0 y1 y2 y3 y4
              cases b7 with
              | false =>
                have hyl2 := HYL.out
                go_wp2
                go_roundw
                case rel => first | exact ⟨q + 1, ys, k7, by go_num, by omega, by omega, by omega, HL7.out⟩ | ((repeat apply Exists.intro); exact ⟨⟨q + 1, ys, k7, by go_num, by omega, by omega, by omega, HL7.out⟩, rfl⟩)
                case measure => simp [intOf]; omega
              | true =>
                have x3 := KX7.out.cell 3 _ rfl
                have hx7l := KX7.out.lt
                by_cases hd3 : x5.d < 30
                · have hd4 : decide (x5.d < 30) = true := by simp [hd3]
                  have x1 : w7.cell? ⟨wc.heap.size, 1, none⟩ = some (.int .i64 x5.b) := KX7.out.cell 1 _ rfl
                  have x3b : w7.cell? ⟨wc.heap.size, 3, none⟩ = some (.int .i64 x5.d) := KX7.out.cell 3 _ rfl
                  clear x3
                  have x3 := x3b
                  clear x3b
                  have hw7p := HL7.out.cur.lt
                  have L8 : Hid (LRel w 61 p u ys (.slice (some ⟨g6, 0, none⟩) (xs.length + 1) c6) k7 ((w7.alloc (.cells #[.int .i64 1, .int .i64 1, .int .i64 3] 3)).drew)) := Lib.hid (HL7.out.below ((Below.refl _ _).alloc (Nat.le_refl _) (.cells #[.int .i64 1, .int .i64 1, .int .i64 3] 3)).drew)
                  have R8 : Hid (Rd ((w7.alloc (.cells #[.int .i64 1, .int .i64 1, .int .i64 3] 3)).drew) (some ⟨w7.heap.size, 0, none⟩) (cells1 [1, 1, 3])) := Lib.hid (rd_ints (w := w7) [1, 1, 3] 3).drew
                  have KX8 : Hid (Blk ((w7.alloc (.cells #[.int .i64 1, .int .i64 1, .int .i64 3] 3)).drew) wc.heap.size x5.cells) := Lib.hid (KX7.out.alloc _).drew
                  have hyl2 := HYL.out
                  go_wp2_with fail
                  go_region_held3 (fun w' => w'.cell? ⟨wc.heap.size, 1, none⟩ = some (.int .i64 x5.b) ∧ w'.cell? ⟨wc.heap.size, 3, none⟩ = some (.int .i64 x5.d)) (first | go_keep | exact ⟨J1, J3⟩ | exact ⟨G1, G3⟩ | exact ⟨F1, F3⟩) (first | (refine step_app rfl (.tmp 44) (.tmp 56) 24 rfl w.heap.size 61 _ 5 40 Try.underlying24 info61 rfl (by omega) (.slice (some ⟨g6, 0, none⟩) (xs.length + 1) c6) ys.length (cells5 ys) (by simp [Act.eval, Act.put]) (HL9.out.below ((Below.refl _ _).alloc (Nat.le_refl _) (.cells #[.int .i64 x9.a, .int .i64 x9.b, .int .i64 x9.c, .int .i64 x9.d, .int .i64 x9.e] 61))).own (some ⟨w9.heap.size, 0, none⟩) 1 1 x9.cells (by simp [Act.eval, Act.put]) rfl (rd_new #[.int .i64 x9.a, .int .i64 x9.b, .int .i64 x9.c, .int .i64 x9.d, .int .i64 x9.e] 61 rfl) (oneCell_1 x9) (by unfold maxLen; omega) (by omega) (by have := HL9.out.sz; simp; omega) ?_; intro va wa oa ga _; have HLa := Lib.hid (HL9.out.push (x := x9) hp ((Below.refl _ _).alloc (Nat.le_refl _) (.cells #[.int .i64 x9.a, .int .i64 x9.b, .int .i64 x9.c, .int .i64 x9.d, .int .i64 x9.e] 61)) oa ga); have KXb := Lib.hid ((KXa.out.alloc (.cells #[.int .i64 x9.a, .int .i64 x9.b, .int .i64 x9.c, .int .i64 x9.d, .int .i64 x9.e] 61)).grown ga (by rw [show (Value.slice (some ⟨g6, 0, none⟩) (xs.length + 1) c6).ownBlock = some g6 from rfl]; intro e; injection e with e; exact hgw e)); have J1 : wa.cell? ⟨wc.heap.size, 1, none⟩ = some (.int .i64 x5.b) := KXb.out.cell 1 _ rfl; have J3 : wa.cell? ⟨wc.heap.size, 3, none⟩ = some (.int .i64 x5.d) := KXb.out.cell 3 _ rfl; clear ga oa) | (go_at_call 29; refine (AM.out k7 3 _ (some ⟨w7.heap.size, 0, none⟩) [1, 1, 3] _ (by with_reducible exact L8.out.cur) (by omega) rfl (by decide) (by decide) (by with_reducible exact R8.out) (fun g o q e => by injection e with e; injection e with e; omega)).mono ?_; rintro e w8 ⟨v8, k8, rfl, ⟨z8, m8, rfl⟩, hk8, hc, hg⟩; have HL8 := Lib.hid (L8.out.call hp hc hg); have KX9 := Lib.hid (KX8.out.grown hg (fun e => by injection e with e; omega)); have hz8 : 0 ≤ z8 ∧ z8 ≤ 5 := (by simp at m8; omega); have F1 : w8.cell? ⟨wc.heap.size, 1, none⟩ = some (.int .i64 x5.b) := KX9.out.cell 1 _ rfl; have F3 : w8.cell? ⟨wc.heap.size, 3, none⟩ = some (.int .i64 x5.d) := KX9.out.cell 3 _ rfl; have hwd : IntKind.i64.wrap (x5.d + z8) = x5.d + z8 := IntWalk.i64_in _ (by omega); clear m8 hc hg) | (go_at_call 38; refine (RT.out k8 _ _ _ _ (by with_reducible exact HL8.out.cur) (by omega) (by first | omega | (rw [hwd]; omega))).mono ?_; rintro e w9 ⟨v9, k9, rfl, ⟨x9, rfl, hx9⟩, hk9, hc, hg⟩; have HL9 := Lib.hid (HL8.out.call hp hc hg); have KXa := Lib.hid (KX9.out.grown hg (fun e => by injection e with e; omega)); have G1 : w9.cell? ⟨wc.heap.size, 1, none⟩ = some (.int .i64 x5.b) := KXa.out.cell 1 _ rfl; have G3 : w9.cell? ⟨wc.heap.size, 3, none⟩ = some (.int .i64 x5.d) := KXa.out.cell 3 _ rfl; clear hc hg))
                  all_goals go_goals
                  all_goals (
                    clear L8 R8 KX8 HL7 KX7 HL8 HL9 KX9 KXa KXb F1 F3 G1 G3 J1 J3 x1 x3
                    go_wp2_with fail
                    go_roundw
                    case rel => first | exact ⟨q + 1, (ys ++ [x9]), k9, by go_num, by omega, by simp; omega, by omega, HLa.out⟩ | ((repeat apply Exists.intro); exact ⟨⟨q + 1, (ys ++ [x9]), k9, by go_num, by omega, by simp; omega, by omega, HLa.out⟩, rfl⟩)
                    case measure => (simp [intOf]; omega))
                · have hd4 : decide (x5.d < 30) = false := by simp; omega
                  have hyl2 := HYL.out
                  go_wp2
                  go_roundw
                  case rel => first | exact ⟨q + 1, ys, k7, by go_num, by omega, by omega, by omega, HL7.out⟩ | ((repeat apply Exists.intro); exact ⟨⟨q + 1, ys, k7, by go_num, by omega, by omega, by omega, HL7.out⟩, rfl⟩)
                  case measure => simp [intOf]; omega
        · obtain rfl : q = 3 := by omega
          rw [show ((3 : Nat) : Int) = 3 from rfl]
          go_wp2
          go_roundw
          case rel => exact ⟨j + 1, xs, kk, by go_num, by omega, by omega, by omega, HL.out⟩
          case measure => simp [intOf]; omega
    · obtain rfl : j = 3 := by omega
      rw [show ((3 : Nat) : Int) = 3 from rfl]
      obtain ⟨A, c, rfl⟩ := own_form HL.out.own
      go_wp2_with fail
      refine (PK.out kk0 32 _ HL.out.cur (by omega) (by decide) (by decide)).mono ?_
      rintro e w2 ⟨vw2, k2, rfl, ⟨rw2, rfl, aw2, bw2⟩, hk2, hc, hg⟩
      have HL2 := Lib.hid (HL.out.call hp hc hg)
      clear hc hg HL
      by_cases h0 : rw2 = 0
      · subst h0
        go_wp2_with fail
        refine (AM.out k2 4 _ (some ⟨w2.heap.size, 0, none⟩) [-1, 2, 9, 10] _ (HL2.out.cur.alloc _) (by omega) rfl (by decide) (by decide) (rd_ints (w := w2) [-1, 2, 9, 10] 3) (fun g o q e => by have := HL2.out.cur.lt; injection e with e; injection e with e; omega)).mono ?_
        rintro e w3 ⟨vw3, k3, rfl, ⟨zw3, -, rfl⟩, hk3, hc, hg⟩
        have HL3 := Lib.hid ((HL2.out.below ((Below.refl _ _).alloc (Nat.le_refl _) _)).call hp hc hg)
        clear hc hg HL2
        go_wp2_with fail
        refine (AM.out k3 4 _ (some ⟨w3.heap.size, 0, none⟩) [0, 100, 2000, 2001] _ (HL3.out.cur.alloc _) (by omega) rfl (by decide) (by decide) (rd_ints (w := w3) [0, 100, 2000, 2001] 3) (fun g o q e => by have := HL3.out.cur.lt; injection e with e; injection e with e; omega)).mono ?_
        rintro e w4 ⟨vw4, k4, rfl, ⟨zw4, -, rfl⟩, hk4, hc, hg⟩
        have HL4 := Lib.hid ((HL3.out.below ((Below.refl _ _).alloc (Nat.le_refl _) _)).call hp hc hg)
        clear hc hg HL3
        go_wp2_with fail
        refine (RT.out k4 _ _ _ _ HL4.out.cur (by omega) (by omega)).mono ?_
        rintro e w5 ⟨v5, k5, rfl, ⟨x5, rfl, -⟩, hk5, hc, hg⟩
        have HL5 := Lib.hid (HL4.out.call hp hc hg)
        clear hc hg HL4
        have HO := Lib.hid ((HL5.out.below ((Below.refl _ _).alloc (Nat.le_refl _) (.cells #[.int .i64 x5.a, .int .i64 x5.b, .int .i64 x5.c, .int .i64 x5.d, .int .i64 x5.e] 61))).own)
        have HX : Hid (Rd (w5.alloc (.cells #[.int .i64 x5.a, .int .i64 x5.b, .int .i64 x5.c, .int .i64 x5.d, .int .i64 x5.e] 61)) (some ⟨w5.heap.size, 0, none⟩) x5.cells) := Lib.hid (rd_new #[.int .i64 x5.a, .int .i64 x5.b, .int .i64 x5.c, .int .i64 x5.d, .int .i64 x5.e] 61 rfl)
        have hbs : w.heap.size ≤ (w5.alloc (.cells #[.int .i64 x5.a, .int .i64 x5.b, .int .i64 x5.c, .int .i64 x5.d, .int .i64 x5.e] 61)).heap.size := by have := HL5.out.sz; simp; omega
        go_wp2_with (at_builtin; go_must (refine wpList_app _ rfl (.tmp 62) (.tmp 71) 24 rfl w.heap.size 61 _ 5 40 Try.underlying24 info61 rfl (by omega) _ _ _ rfl HO.out _ 1 1 x5.cells rfl rfl HX.out (oneCell_1 x5) (by unfold maxLen; omega) (by omega) hbs ?_); intro v6 w6 o6 g6 d6; refine Hid.out ?_)
        have HLf := Lib.hid (HL5.out.push (x := x5) hp ((Below.refl _ _).alloc (Nat.le_refl _) _) o6 g6)
        clear o6 g6 d6 HO HX hbs
        refine Lib.hid ?_
        go_wp2
        go_ret
        exact ⟨_, _, k5, rfl, HLf.out.own, by simp; omega, by omega, HLf.out.cur, HLf.out.gr⟩
      · have d0 : (rw2 == 0) = false := by simp [h0]
        by_cases h1 : rw2 = 1
        · subst h1
          go_wp2_with fail
          go_loopw [3] (fun v wr => ∃ (ys : List R5) (kq : Nat), ys.length ≤ 19 ∧ kq + 4 * (20 - ys.length) ≤ k2 + 80 ∧ LRel w 61 p u ys v kq wr) (fun v _ => 30 - lenV v)
          case atStart => exact ⟨xs0, k2, by omega, by omega, HL2.out⟩
          case round =>
            obtain ⟨ys, kq, hy, hkq, hL⟩ := hrel
            obtain ⟨A2, c2, rfl⟩ := own_form hL.own
            have HL := Lib.hid hL
            clear hL HL2
            go_wp2_with fail
            refine (PK.out kq 2 _ HL.out.cur (by omega) (by decide) (by decide)).mono ?_
            rintro e w5 ⟨vw5, k5, rfl, ⟨rw5, rfl, aw5, bw5⟩, hk5, hc, hg⟩
            have HL5 := Lib.hid (HL.out.call hp hc hg)
            clear hc hg HL
            have hw1 : IntKind.i64.wrap (16 + rw5) = 16 + rw5 := IntWalk.i64_in _ (by omega)
            have hw2 : IntKind.i64.wrap (10 + (ys.length : Int)) = 10 + (ys.length : Int) := IntWalk.i64_in _ (by omega)
            by_cases hq : (ys.length : Int) < 16 + rw5
            · have hy16 : ys.length ≤ 16 := by omega
              have HO := Lib.hid ((HL5.out.below ((Below.refl _ _).alloc (Nat.le_refl _) (.cells #[.int .i64 8, .int .i64 (10 + (ys.length : Int)), .int .i64 0, .int .i64 7, .int .i64 4] 61))).own)
              have HX : Hid (Rd (w5.alloc (.cells #[.int .i64 8, .int .i64 (10 + (ys.length : Int)), .int .i64 0, .int .i64 7, .int .i64 4] 61)) (some ⟨w5.heap.size, 0, none⟩) (⟨8, 10 + (ys.length : Int), 0, 7, 4⟩ : R5).cells) := Lib.hid (rd_new #[.int .i64 8, .int .i64 (10 + (ys.length : Int)), .int .i64 0, .int .i64 7, .int .i64 4] 61 rfl)
              have hbs : w.heap.size ≤ (w5.alloc (.cells #[.int .i64 8, .int .i64 (10 + (ys.length : Int)), .int .i64 0, .int .i64 7, .int .i64 4] 61)).heap.size := by have := HL5.out.sz; simp; omega
              go_wp2_with (at_builtin; go_must (refine wpList_app _ rfl (.tmp 81) (.tmp 86) 24 rfl w.heap.size 61 _ 5 40 Try.underlying24 info61 rfl (by omega) _ _ _ rfl HO.out _ 1 1 (⟨8, 10 + (ys.length : Int), 0, 7, 4⟩ : R5).cells rfl rfl HX.out (oneCell_1 (⟨8, 10 + (ys.length : Int), 0, 7, 4⟩ : R5)) (by unfold maxLen; omega) (by omega) hbs ?_); intro v6 w6 o6 g6 d6; refine Hid.out ?_)
              have HLf := Lib.hid (HL5.out.push (x := (⟨8, 10 + (ys.length : Int), 0, 7, 4⟩ : R5)) hp ((Below.refl _ _).alloc (Nat.le_refl _) _) o6 g6)
              clear o6 g6 d6 HO HX hbs
              refine Lib.hid ?_
              obtain ⟨A6, c6, rfl⟩ := own_form HLf.out.own
              go_wp2
              go_roundw
              case rel => exact ⟨_, k5, by simp; omega, by simp; omega, HLf.out⟩
              case measure => simp [lenV]; omega
            · have hq2 : 16 + rw5 ≤ (ys.length : Int) := by omega
              go_wp2
              go_ret
              exact ⟨_, _, k5, rfl, HL5.out.own, by omega, by omega, HL5.out.cur, HL5.out.gr⟩
        · have d1 : (rw2 == 1) = false := by simp [h1]
          go_wp2
          go_ret
          exact ⟨_, _, k2, rfl, HL2.out.own, by omega, by omega, HL2.out.cur, HL2.out.gr⟩
end Go.Proofs.Ytobloedpmjkgpaa
