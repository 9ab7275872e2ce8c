/- The reference's l1Put: a number is put to its place, once. -/
import Derived.Test.YtehohkdipfphmaaDoorPutV
import Derived.Test.YtehohkdipfphmaaDoorExt
import Derived.Test.YtehohkdipfphmaaDoorIn
import Derived.Test.YtehohkdipfphmaaDoorList
import Derived.Test.YtehohkdipfphmaaDoorRise
import Derived.Deep.RegionHeld3
namespace Go.Proofs.YtehohkdipfphmaaDoor
set_option linter.unusedVariables false
set_option linter.unusedSimpArgs false
open Go.RowKit

/-- append, as one step of a region that draws its order. -/
theorem step_app {P : Program} {ops : Array Oper} {o : Oper} {a : Act} {w : World} {K : Act → World → Prop} {Q : Exit → Act → World → Prop} {E : Prop} (hgd : o.guard = none) (s x : Operand) (t : TypeId)
    (ho : o.op = .call { callee := .builtin .append, args := #[s, x], argTypes := #[t, t] })
    (base : Nat) (e : TypeId) (z : Value) (size bytes : Nat) (ht : P.underlying t = some (.slice e)) (hinfo : (P.info? e).map (fun i => (i.zero, i.size, i.bytes)) = some (some z, size, bytes))
    (hzs : z.cells.size = size) (hsz : 0 < size) (v : Value) (n : Nat) (xs : List Value) (hs : a.eval s = v) (hown : w.ownsRow base e size v n xs)
    (A : Option Addr) (m c : Nat) (news : List Value) (hx : a.eval x = .slice A m c) (hl : news.length = m * size) (hr : Rd w A news) (h1 : ∀ u ∈ news, u.oneCell' = true)
    (h63 : n + m ≤ maxLen) (hbytes : (n + m) * bytes ≤ 140737488355328) (hbase : base ≤ w.heap.size)
    (h : ∀ v' w', w'.ownsRow base e size v' (n + m) (xs ++ news) → w.grownBy w' v.ownBlock → (v'.ownBlock = v.ownBlock ∨ v'.ownBlock = some w.heap.size) → K (a.put o.dst v') w') :
    if Region.wanted o (yielded ops a.tmps) = true then Oper.wp P o a w K Q else E := by
  have hw : Region.wanted o (yielded ops a.tmps) = true := by simp [Region.wanted, hgd]
  rw [if_pos hw]
  exact wp_app w s x t ho base e z size bytes ht hinfo hzs hsz v n xs hs hown A m c news hx hl hr h1 h63 hbytes hbase h
theorem rd_take1 {w : World} {A : Option Addr} {xs : List Int} (h : Rd w A (cells1 xs)) (k : Nat) : Rd w A (cells1 (xs.take k)) := by
  have e : cells1 xs = cells1 (xs.take k) ++ cells1 (xs.drop k) := by rw [← cells1_append, List.take_append_drop]
  rw [e] at h
  exact Rd.prefix_ h
theorem rd_drop1 {w : World} {g o : Nat} {xs : List Int} (h : Rd w (some ⟨g, o, none⟩) (cells1 xs)) (k : Nat) : Rd w (some ⟨g, o + k, none⟩) (cells1 (xs.drop k)) := by
  have ed : cells1 (xs.drop k) = (cells1 xs).drop k := by simp [cells1, List.map_drop]
  rcases h with h | ⟨g', o', e, hg, hc⟩
  · left; rw [ed, h, List.drop_nil]
  · injection e with e
    injection e with e1 e2
    subst e1; subst e2
    refine .inr ⟨g, o + k, rfl, hg, fun j v hv => ?_⟩
    rw [ed, List.getElem?_drop] at hv
    rw [Nat.add_assoc]
    exact hc _ v hv
theorem own_empty' {w : World} {base e size b : Nat} (hb : b = w.heap.size) (hb2 : base ≤ w.heap.size) : (w.alloc (.cells #[] e)).ownsRow base e size (.slice (some ⟨b, 0, none⟩) 0 0) 0 [] := by
  subst hb; exact own_empty w base e size hb2
theorem rd_grown {w w' : World} {row : Option Nat} {g o : Nat} {cs : List Value} (hg : w.grownBy w' row) (h : Rd w (some ⟨g, o, none⟩) cs) (hlt : g < w.heap.size) (hne : some g ≠ row) : Rd w' (some ⟨g, o, none⟩) cs := by
  rcases h with h | ⟨g', o', e, hg', hc⟩
  · exact .inl h
  · injection e with e
    injection e with e1 e2
    subst e1; subst e2
    exact .inr ⟨g, o, rfl, Nat.lt_of_lt_of_le hg' hg.size, fun j v hv => (hg.cell_far ⟨g, o + j, none⟩ hg' hne).trans (hc j v hv)⟩
/-- A row of the call's own, the old one or a new one. -/
def RetPut (lo E : Nat) (l : List Int) (W : World) : Ending → World → Prop := fun e w' => ∃ v, e = .returned v ∧ w'.ownsRow lo E 1 v l.length (cells1 l) ∧ Below W.heap.size W w'

set_option maxRecDepth 20000 in
set_option maxHeartbeats 4000000 in
theorem l1Put_any (lo : Nat) (v : Value) (l : List Int) (z : Int) (w : World) (ho : w.ownsRow lo 3 1 v l.length (cells1 l)) (hlo : lo ≤ w.heap.size) (h20 : l.length ≤ 1048576) :
    Calls Tryd.prog 30 #[v, .int .i64 z] w (RetPut lo 3 (putV l z) w) := by
  obtain ⟨n, hn⟩ : ∃ n, n = l.length := ⟨_, rfl⟩
  rw [← hn] at ho h20
  have HO := Lib.hid ho
  have HNL := Lib.hid hn
  rcases ho.2 with ⟨hv, h0⟩ | ⟨g, cap, cur, rfl, _, _, hnc, hcm, _⟩
  · have hl0 : l = [] := List.eq_nil_of_length_eq_zero (by omega)
    obtain ⟨c, hc⟩ : ∃ c : Nat, c = 0 := ⟨0, rfl⟩
    obtain rfl : v = .slice none n c := by rw [hv, h0, hc]
    have HR : Hid (Rd w none (cells1 l)) := Lib.hid (.inl (by rw [hl0]; rfl))
    have HPX0 : Hid (∀ k : Nat, putV l z = l.take k ++ z :: l.drop k) := Lib.hid (fun k => by rw [hl0]; simp [putV])
    have HL0 := Lib.hid hl0
    have H0 := Lib.hid (show n = 0 ∧ c = 0 from ⟨h0, hc⟩)
    clear hl0 ho hv hn h0 hc
    go_enter Tryd.func30, Tryd.ntmps30
    go_wp2_with fail
    go_loopw [5] (fun i wr => ∃ k : Nat, k ≤ n ∧ i = .int .i64 k ∧ w = wr) (fun i _ => n - (intOf i).toNat)
    case atStart => exact ⟨0, Nat.zero_le _, rfl, rfl⟩
    case round =>
      obtain ⟨k, hk, rfl, rfl⟩ := hrel
      have q0 : (0 : Int) ≤ (k : Int) := by omega
      have q1 : (k : Int) ≤ (n : Int) := by omega
      have q2 : (k : Int) ≤ (c : Int) := by have := H0.out; omega
      have q3 : k ≤ c := by have := H0.out; omega
      have q4 : (n : Int) ≤ (c : Int) := by have := H0.out; omega
      have hd : decide (k < n) = false := by have := H0.out; simp; omega
      have q5 : (n : Int) ≤ (k : Int) := by have := H0.out; omega
      have HPX := Lib.hid (HPX0.out k)
      go_wp2_with fail
      have HK5 := Lib.hid (show (cells1 (l.take k)).length = k * 1 by rw [length_cells1, List.length_take]; have := HNL.out; omega)
      have HD5 := Lib.hid (show (cells1 (l.drop k)).length = (n - k) * 1 by rw [length_cells1, List.length_drop]; have := HNL.out; omega)
      have OA : Hid (((w.alloc (.cells #[] 3)).drew).ownsRow w.heap.size 3 1 (.slice (some ⟨w.heap.size, 0, none⟩) 0 0) 0 []) := Lib.hid (own_empty w _ _ _ (Nat.le_refl _))
      have BBA : Hid (Below w.heap.size w ((w.alloc (.cells #[] 3)).drew)) := Lib.hid ((Below.refl _ _).alloc (Nat.le_refl _) _).drew
      have RAA : Hid (Rd ((w.alloc (.cells #[] 3)).drew) none (cells1 (l.take k))) := Lib.hid (rd_take1 (HR.out.below BBA.out) k)
      have OB : Hid ((((w.alloc (.cells #[] 3)).alloc (.cells #[.int .i64 z] 3)).drew).ownsRow w.heap.size 3 1 (.slice (some ⟨w.heap.size, 0, none⟩) 0 0) 0 []) := Lib.hid ((own_empty w _ _ _ (Nat.le_refl _)).alloc _)
      have BBB : Hid (Below w.heap.size w (((w.alloc (.cells #[] 3)).alloc (.cells #[.int .i64 z] 3)).drew)) := Lib.hid ((((Below.refl _ _).alloc (Nat.le_refl _) _).alloc (by simp) _).drew)
      have RXB : Hid (Rd (((w.alloc (.cells #[] 3)).alloc (.cells #[.int .i64 z] 3)).drew) (some ⟨w.heap.size + 1, 0, none⟩) [.int .i64 z]) := Lib.hid (rd_new #[.int .i64 z] 3 (by simp))
      have RAB : Hid (Rd (((w.alloc (.cells #[] 3)).alloc (.cells #[.int .i64 z] 3)).drew) none (cells1 (l.take k))) := Lib.hid (rd_take1 (HR.out.below BBB.out) k)
      have OC : Hid ((((w.alloc (.cells #[.int .i64 z] 3)).alloc (.cells #[] 3)).drew).ownsRow w.heap.size 3 1 (.slice (some ⟨w.heap.size + 1, 0, none⟩) 0 0) 0 []) := Lib.hid (own_empty' (by simp) (by simp))
      have BBC : Hid (Below w.heap.size w (((w.alloc (.cells #[.int .i64 z] 3)).alloc (.cells #[] 3)).drew)) := Lib.hid ((((Below.refl _ _).alloc (Nat.le_refl _) _).alloc (by simp) _).drew)
      have RXC : Hid (Rd (((w.alloc (.cells #[.int .i64 z] 3)).alloc (.cells #[] 3)).drew) (some ⟨w.heap.size, 0, none⟩) [.int .i64 z]) := Lib.hid ((rd_new #[.int .i64 z] 3 rfl).alloc _)
      have RAC : Hid (Rd (((w.alloc (.cells #[.int .i64 z] 3)).alloc (.cells #[] 3)).drew) none (cells1 (l.take k))) := Lib.hid (rd_take1 (HR.out.below BBC.out) k)
      go_region_held3 (fun w' => True) (first | go_keep | exact trivial) (first
        | (refine step_app rfl (.tmp 33) (.tmp 36) 27 rfl w.heap.size 3 _ 1 8 Tryd.underlying27 infoI rfl (by omega) (.slice (some ⟨w.heap.size, 0, none⟩) 0 0) 0 [] (by simp [Act.eval, Act.put]) (by with_reducible exact OA.out) none k c (cells1 (l.take k)) (by simp [Act.eval, Act.put]) HK5.out (RAA.out) (oneCell_ints _) (by unfold maxLen; omega) (by omega) (by first | exact Nat.le_refl _ | exact B4.size | exact (B4.alloc B4.size _).size | exact B5.size | (simp <;> omega)) ?_; intro v4 w4 o4 g4w _; have B4 := BBA.out.grown g4w BBA.out.size (fun j hj => (OA.out.lt j hj).1))
        | (refine step_app rfl (.tmp 33) (.tmp 36) 27 rfl w.heap.size 3 _ 1 8 Tryd.underlying27 infoI rfl (by omega) (.slice (some ⟨w.heap.size, 0, none⟩) 0 0) 0 [] (by simp [Act.eval, Act.put]) (by with_reducible exact OB.out) none k c (cells1 (l.take k)) (by simp [Act.eval, Act.put]) HK5.out (RAB.out) (oneCell_ints _) (by unfold maxLen; omega) (by omega) (by first | exact Nat.le_refl _ | exact B4.size | exact (B4.alloc B4.size _).size | exact B5.size | (simp <;> omega)) ?_; intro v4 w4 o4 g4w _; have B4 := BBB.out.grown g4w BBB.out.size (fun j hj => (OB.out.lt j hj).1); have RX4 := rd_grown g4w RXB.out (by simp <;> omega) (by simp [Value.ownBlock]))
        | (refine step_app rfl (.tmp 33) (.tmp 36) 27 rfl w.heap.size 3 _ 1 8 Tryd.underlying27 infoI rfl (by omega) (.slice (some ⟨w.heap.size + 1, 0, none⟩) 0 0) 0 [] (by simp [Act.eval, Act.put]) (by with_reducible exact OC.out) none k c (cells1 (l.take k)) (by simp [Act.eval, Act.put]) HK5.out (RAC.out) (oneCell_ints _) (by unfold maxLen; omega) (by omega) (by first | exact Nat.le_refl _ | exact B4.size | exact (B4.alloc B4.size _).size | exact B5.size | (simp <;> omega)) ?_; intro v4 w4 o4 g4w _; have B4 := BBC.out.grown g4w BBC.out.size (fun j hj => (OC.out.lt j hj).1); have RX4 := rd_grown g4w RXC.out (by simp <;> omega) (by simp [Value.ownBlock]))
        | (refine step_app rfl (.tmp 37) (.tmp 39) 27 rfl w.heap.size 3 _ 1 8 Tryd.underlying27 infoI rfl (by omega) v4 _ _ (by simp [Act.eval, Act.put]) (by with_reducible exact o4.alloc _) (some ⟨w4.heap.size, 0, none⟩) 1 1 [.int .i64 z] (by simp [Act.eval, Act.put]) rfl (rd_new #[.int .i64 z] 3 rfl) (oneCell_ints [z]) (by unfold maxLen; omega) (by omega) (by first | exact Nat.le_refl _ | exact B4.size | exact (B4.alloc B4.size _).size | exact B5.size | (simp <;> omega)) ?_; intro v5 w5 o5 g5w _; have B5 : Below w.heap.size w w5 := (B4.alloc B4.size _).grown g5w (B4.alloc B4.size _).size (fun j hj => (o4.lt j hj).1))
        | (refine step_app rfl (.tmp 37) (.tmp 39) 27 rfl w.heap.size 3 _ 1 8 Tryd.underlying27 infoI rfl (by omega) v4 _ _ (by simp [Act.eval, Act.put]) (by with_reducible exact o4) (some ⟨(w.heap.size + 1), 0, none⟩) 1 1 [.int .i64 z] (by simp [Act.eval, Act.put]) rfl (RX4) (oneCell_ints [z]) (by unfold maxLen; omega) (by omega) (by first | exact Nat.le_refl _ | exact B4.size | exact (B4.alloc B4.size _).size | exact B5.size | (simp <;> omega)) ?_; intro v5 w5 o5 g5w _; have B5 : Below w.heap.size w w5 := B4.grown g5w B4.size (fun j hj => (o4.lt j hj).1))
        | (refine step_app rfl (.tmp 37) (.tmp 39) 27 rfl w.heap.size 3 _ 1 8 Tryd.underlying27 infoI rfl (by omega) v4 _ _ (by simp [Act.eval, Act.put]) (by with_reducible exact o4) (some ⟨w.heap.size, 0, none⟩) 1 1 [.int .i64 z] (by simp [Act.eval, Act.put]) rfl (RX4) (oneCell_ints [z]) (by unfold maxLen; omega) (by omega) (by first | exact Nat.le_refl _ | exact B4.size | exact (B4.alloc B4.size _).size | exact B5.size | (simp <;> omega)) ?_; intro v5 w5 o5 g5w _; have B5 : Below w.heap.size w w5 := B4.grown g5w B4.size (fun j hj => (o4.lt j hj).1))
        | (refine step_app rfl (.tmp 40) (.tmp 43) 27 rfl w.heap.size 3 _ 1 8 Tryd.underlying27 infoI rfl (by omega) v5 _ _ (by simp [Act.eval, Act.put]) (by with_reducible exact o5) none (n - k) (c - k) (cells1 (l.drop k)) (by simp [Act.eval, Act.put]) HD5.out (.inl (by rw [HL0.out]; simp [cells1])) (oneCell_ints _) (by unfold maxLen; omega) (by omega) (by first | exact Nat.le_refl _ | exact B4.size | exact (B4.alloc B4.size _).size | exact B5.size | (simp <;> omega)) ?_; intro v6 w6 o6 g6w _; have B6 : Below w.heap.size w w6 := B5.grown g6w B5.size (fun j hj => (o5.lt j hj).1)))
      all_goals go_goals
      all_goals (
        have EC : [] ++ cells1 (l.take k) ++ [.int .i64 z] ++ cells1 (l.drop k) = cells1 (putV l z) := by rw [HPX.out, List.nil_append, List.append_assoc, cells1_append]; rfl
        have EN : 0 + k + 1 + (n - k) = (putV l z).length := by rw [HPX.out, List.length_append, List.length_cons, List.length_take, List.length_drop]; have := HNL.out; omega
        rw [EC, EN] at o6
        clear EC EN
        have O6 := Lib.hid (own_mono o6 hlo)
        have B6H := Lib.hid B6
        clear o6 o5 o4 g4w g5w g6w B4 B5 B6 OA OB OC BBA BBB BBC RAA RAB RAC RXB RXC
        go_wp2
        go_ret
        exact ⟨_, rfl, O6.out, B6H.out⟩)
  · have HR : Hid (Rd w (some ⟨g, 0, none⟩) (cells1 l)) := Lib.hid (Rd.of_own ho)
    unfold maxLen at hcm
    clear ho hn
    go_enter Tryd.func30, Tryd.ntmps30
    go_wp2_with fail
    go_loopw [5] (fun i wr => ∃ k : Nat, k ≤ n ∧ i = .int .i64 k ∧ (∀ (j : Nat) (a : Int), j < k → l[j]? = some a → a < z) ∧ w = wr) (fun i _ => n - (intOf i).toNat)
    case atStart => exact ⟨0, Nat.zero_le _, rfl, fun j a hj => by omega, rfl⟩
    case round =>
      obtain ⟨k, hk, rfl, hall, rfl⟩ := hrel
      have HAL := Lib.hid hall
      clear hall
      have q0 : (0 : Int) ≤ (k : Int) := by omega
      have q1 : (k : Int) ≤ (n : Int) := by omega
      have q2 : (k : Int) ≤ (cap : Int) := by omega
      have q3 : k ≤ cap := by omega
      by_cases hlt : k < n
      · obtain ⟨a, hak⟩ : ∃ a, l[k]? = some a := ⟨l[k]'(by have := HNL.out; omega), List.getElem?_eq_getElem _⟩
        obtain ⟨g', o', hge, hg, c0⟩ := HR.out.at1 hak
        injection hge with hge
        injection hge with e1 e2
        subst e1; subst e2
        rw [Nat.zero_add] at c0
        have HAK := Lib.hid hak
        clear hak
        have q4 : (n : Int) ≤ (cap : Int) := by omega
        have hck : ¬ cap = k := by omega
        have hck2 : ¬ k = cap := by omega
        by_cases hz : a < z
        · have f1 : decide (a < z) = true := by simpa using hz
          have HN1 : Hid (∀ (j : Nat) (b : Int), j < k + 1 → l[j]? = some b → b < z) := Lib.hid (fun j b hj hb => by
            rcases Nat.lt_or_ge j k with h | h
            · exact HAL.out j b h hb
            · obtain rfl : j = k := by omega
              obtain rfl : a = b := Option.some.inj (HAK.out.symm.trans hb)
              exact hz)
          clear hz
          go_wp2
          go_roundw
          case rel => exact ⟨k + 1, by omega, by go_num, HN1.out, by trivial⟩
          case measure => simp [intOf]; omega
        · have f1 : decide (a < z) = false := by simpa using hz
          by_cases hz2 : a = z
          · have f2 : (a == z) = true := by simpa using hz2
            have HPX := Lib.hid (putV_is (n := z) HAL.out (by rw [HAK.out, hz2]))
            clear hz hz2
            go_wp2
            go_ret
            refine ⟨_, rfl, ?_, Below.refl _ _⟩
            rw [HPX.out, ← HNL.out]; exact HO.out
          · have f2 : (a == z) = false := by simpa using hz2
            have HPX := Lib.hid (putV_at (l := l) (n := z) HAL.out (by have := HNL.out; omega) (fun b hb => by
              obtain rfl : a = b := Option.some.inj (HAK.out.symm.trans hb)
              omega))
            clear hz hz2
            go_wp2_with fail
            have HK5 := Lib.hid (show (cells1 (l.take k)).length = k * 1 by rw [length_cells1, List.length_take]; have := HNL.out; omega)
            have HD5 := Lib.hid (show (cells1 (l.drop k)).length = (n - k) * 1 by rw [length_cells1, List.length_drop]; have := HNL.out; omega)
            have OA : Hid (((w.alloc (.cells #[] 3)).drew).ownsRow w.heap.size 3 1 (.slice (some ⟨w.heap.size, 0, none⟩) 0 0) 0 []) := Lib.hid (own_empty w _ _ _ (Nat.le_refl _))
            have BBA : Hid (Below w.heap.size w ((w.alloc (.cells #[] 3)).drew)) := Lib.hid ((Below.refl _ _).alloc (Nat.le_refl _) _).drew
            have RAA : Hid (Rd ((w.alloc (.cells #[] 3)).drew) (some ⟨g, 0, none⟩) (cells1 (l.take k))) := Lib.hid (rd_take1 (HR.out.below BBA.out) k)
            have OB : Hid ((((w.alloc (.cells #[] 3)).alloc (.cells #[.int .i64 z] 3)).drew).ownsRow w.heap.size 3 1 (.slice (some ⟨w.heap.size, 0, none⟩) 0 0) 0 []) := Lib.hid ((own_empty w _ _ _ (Nat.le_refl _)).alloc _)
            have BBB : Hid (Below w.heap.size w (((w.alloc (.cells #[] 3)).alloc (.cells #[.int .i64 z] 3)).drew)) := Lib.hid ((((Below.refl _ _).alloc (Nat.le_refl _) _).alloc (by simp) _).drew)
            have RXB : Hid (Rd (((w.alloc (.cells #[] 3)).alloc (.cells #[.int .i64 z] 3)).drew) (some ⟨w.heap.size + 1, 0, none⟩) [.int .i64 z]) := Lib.hid (rd_new #[.int .i64 z] 3 (by simp))
            have RAB : Hid (Rd (((w.alloc (.cells #[] 3)).alloc (.cells #[.int .i64 z] 3)).drew) (some ⟨g, 0, none⟩) (cells1 (l.take k))) := Lib.hid (rd_take1 (HR.out.below BBB.out) k)
            have OC : Hid ((((w.alloc (.cells #[.int .i64 z] 3)).alloc (.cells #[] 3)).drew).ownsRow w.heap.size 3 1 (.slice (some ⟨w.heap.size + 1, 0, none⟩) 0 0) 0 []) := Lib.hid (own_empty' (by simp) (by simp))
            have BBC : Hid (Below w.heap.size w (((w.alloc (.cells #[.int .i64 z] 3)).alloc (.cells #[] 3)).drew)) := Lib.hid ((((Below.refl _ _).alloc (Nat.le_refl _) _).alloc (by simp) _).drew)
            have RXC : Hid (Rd (((w.alloc (.cells #[.int .i64 z] 3)).alloc (.cells #[] 3)).drew) (some ⟨w.heap.size, 0, none⟩) [.int .i64 z]) := Lib.hid ((rd_new #[.int .i64 z] 3 rfl).alloc _)
            have RAC : Hid (Rd (((w.alloc (.cells #[.int .i64 z] 3)).alloc (.cells #[] 3)).drew) (some ⟨g, 0, none⟩) (cells1 (l.take k))) := Lib.hid (rd_take1 (HR.out.below BBC.out) k)
            go_region_held3 (fun w' => True) (first | go_keep | exact trivial) (first
              | (refine step_app rfl (.tmp 33) (.tmp 36) 27 rfl w.heap.size 3 _ 1 8 Tryd.underlying27 infoI rfl (by omega) (.slice (some ⟨w.heap.size, 0, none⟩) 0 0) 0 [] (by simp [Act.eval, Act.put]) (by with_reducible exact OA.out) (some ⟨g, 0, none⟩) k cap (cells1 (l.take k)) (by simp [Act.eval, Act.put]) HK5.out (RAA.out) (oneCell_ints _) (by unfold maxLen; omega) (by omega) (by first | exact Nat.le_refl _ | exact B4.size | exact (B4.alloc B4.size _).size | exact B5.size | (simp <;> omega)) ?_; intro v4 w4 o4 g4w _; have B4 := BBA.out.grown g4w BBA.out.size (fun j hj => (OA.out.lt j hj).1))
              | (refine step_app rfl (.tmp 33) (.tmp 36) 27 rfl w.heap.size 3 _ 1 8 Tryd.underlying27 infoI rfl (by omega) (.slice (some ⟨w.heap.size, 0, none⟩) 0 0) 0 [] (by simp [Act.eval, Act.put]) (by with_reducible exact OB.out) (some ⟨g, 0, none⟩) k cap (cells1 (l.take k)) (by simp [Act.eval, Act.put]) HK5.out (RAB.out) (oneCell_ints _) (by unfold maxLen; omega) (by omega) (by first | exact Nat.le_refl _ | exact B4.size | exact (B4.alloc B4.size _).size | exact B5.size | (simp <;> omega)) ?_; intro v4 w4 o4 g4w _; have B4 := BBB.out.grown g4w BBB.out.size (fun j hj => (OB.out.lt j hj).1); have RX4 := rd_grown g4w RXB.out (by simp <;> omega) (by simp [Value.ownBlock]))
              | (refine step_app rfl (.tmp 33) (.tmp 36) 27 rfl w.heap.size 3 _ 1 8 Tryd.underlying27 infoI rfl (by omega) (.slice (some ⟨w.heap.size + 1, 0, none⟩) 0 0) 0 [] (by simp [Act.eval, Act.put]) (by with_reducible exact OC.out) (some ⟨g, 0, none⟩) k cap (cells1 (l.take k)) (by simp [Act.eval, Act.put]) HK5.out (RAC.out) (oneCell_ints _) (by unfold maxLen; omega) (by omega) (by first | exact Nat.le_refl _ | exact B4.size | exact (B4.alloc B4.size _).size | exact B5.size | (simp <;> omega)) ?_; intro v4 w4 o4 g4w _; have B4 := BBC.out.grown g4w BBC.out.size (fun j hj => (OC.out.lt j hj).1); have RX4 := rd_grown g4w RXC.out (by simp <;> omega) (by simp [Value.ownBlock]))
              | (refine step_app rfl (.tmp 37) (.tmp 39) 27 rfl w.heap.size 3 _ 1 8 Tryd.underlying27 infoI rfl (by omega) v4 _ _ (by simp [Act.eval, Act.put]) (by with_reducible exact o4.alloc _) (some ⟨w4.heap.size, 0, none⟩) 1 1 [.int .i64 z] (by simp [Act.eval, Act.put]) rfl (rd_new #[.int .i64 z] 3 rfl) (oneCell_ints [z]) (by unfold maxLen; omega) (by omega) (by first | exact Nat.le_refl _ | exact B4.size | exact (B4.alloc B4.size _).size | exact B5.size | (simp <;> omega)) ?_; intro v5 w5 o5 g5w _; have B5 : Below w.heap.size w w5 := (B4.alloc B4.size _).grown g5w (B4.alloc B4.size _).size (fun j hj => (o4.lt j hj).1))
              | (refine step_app rfl (.tmp 37) (.tmp 39) 27 rfl w.heap.size 3 _ 1 8 Tryd.underlying27 infoI rfl (by omega) v4 _ _ (by simp [Act.eval, Act.put]) (by with_reducible exact o4) (some ⟨(w.heap.size + 1), 0, none⟩) 1 1 [.int .i64 z] (by simp [Act.eval, Act.put]) rfl (RX4) (oneCell_ints [z]) (by unfold maxLen; omega) (by omega) (by first | exact Nat.le_refl _ | exact B4.size | exact (B4.alloc B4.size _).size | exact B5.size | (simp <;> omega)) ?_; intro v5 w5 o5 g5w _; have B5 : Below w.heap.size w w5 := B4.grown g5w B4.size (fun j hj => (o4.lt j hj).1))
              | (refine step_app rfl (.tmp 37) (.tmp 39) 27 rfl w.heap.size 3 _ 1 8 Tryd.underlying27 infoI rfl (by omega) v4 _ _ (by simp [Act.eval, Act.put]) (by with_reducible exact o4) (some ⟨w.heap.size, 0, none⟩) 1 1 [.int .i64 z] (by simp [Act.eval, Act.put]) rfl (RX4) (oneCell_ints [z]) (by unfold maxLen; omega) (by omega) (by first | exact Nat.le_refl _ | exact B4.size | exact (B4.alloc B4.size _).size | exact B5.size | (simp <;> omega)) ?_; intro v5 w5 o5 g5w _; have B5 : Below w.heap.size w w5 := B4.grown g5w B4.size (fun j hj => (o4.lt j hj).1))
              | (refine step_app rfl (.tmp 40) (.tmp 43) 27 rfl w.heap.size 3 _ 1 8 Tryd.underlying27 infoI rfl (by omega) v5 _ _ (by simp [Act.eval, Act.put]) (by with_reducible exact o5) (some ⟨g, 0 + k, none⟩) (n - k) (cap - k) (cells1 (l.drop k)) (by simp [Act.eval, Act.put]) HD5.out (rd_drop1 (HR.out.below B5) k) (oneCell_ints _) (by unfold maxLen; omega) (by omega) (by first | exact Nat.le_refl _ | exact B4.size | exact (B4.alloc B4.size _).size | exact B5.size | (simp <;> omega)) ?_; intro v6 w6 o6 g6w _; have B6 : Below w.heap.size w w6 := B5.grown g6w B5.size (fun j hj => (o5.lt j hj).1)))
            all_goals go_goals
            all_goals (
              have EC : [] ++ cells1 (l.take k) ++ [.int .i64 z] ++ cells1 (l.drop k) = cells1 (putV l z) := by rw [HPX.out, List.nil_append, List.append_assoc, cells1_append]; rfl
              have EN : 0 + k + 1 + (n - k) = (putV l z).length := by rw [HPX.out, List.length_append, List.length_cons, List.length_take, List.length_drop]; have := HNL.out; omega
              rw [EC, EN] at o6
              clear EC EN
              have O6 := Lib.hid (own_mono o6 hlo)
              have B6H := Lib.hid B6
              clear o6 o5 o4 g4w g5w g6w B4 B5 B6 OA OB OC BBA BBB BBC RAA RAB RAC RXB RXC
              go_wp2
              go_ret
              exact ⟨_, rfl, O6.out, B6H.out⟩)
      · have hkn : k = n := by omega
        have HPX := Lib.hid (putV_at (l := l) (n := z) HAL.out (by have := HNL.out; omega) (fun b hb => by have := (List.getElem?_eq_some_iff.1 hb).1; have := HNL.out; omega))
        have hgw : g < w.heap.size := by have := (HO.out.lt g rfl).2; exact this
        subst hkn
        have hd : decide (k < k) = false := by simp
        by_cases hkc : k = cap
        · subst hkc
          go_wp2_with fail
          have HK5 := Lib.hid (show (cells1 (l.take k)).length = k * 1 by rw [length_cells1, List.length_take]; have := HNL.out; omega)
          have HD5 := Lib.hid (show (cells1 (l.drop k)).length = 0 * 1 by rw [length_cells1, List.length_drop]; have := HNL.out; omega)
          have OA : Hid (((w.alloc (.cells #[] 3)).drew).ownsRow w.heap.size 3 1 (.slice (some ⟨w.heap.size, 0, none⟩) 0 0) 0 []) := Lib.hid (own_empty w _ _ _ (Nat.le_refl _))
          have BBA : Hid (Below w.heap.size w ((w.alloc (.cells #[] 3)).drew)) := Lib.hid ((Below.refl _ _).alloc (Nat.le_refl _) _).drew
          have RAA : Hid (Rd ((w.alloc (.cells #[] 3)).drew) (some ⟨g, 0, none⟩) (cells1 (l.take k))) := Lib.hid (rd_take1 (HR.out.below BBA.out) k)
          have OB : Hid ((((w.alloc (.cells #[] 3)).alloc (.cells #[.int .i64 z] 3)).drew).ownsRow w.heap.size 3 1 (.slice (some ⟨w.heap.size, 0, none⟩) 0 0) 0 []) := Lib.hid ((own_empty w _ _ _ (Nat.le_refl _)).alloc _)
          have BBB : Hid (Below w.heap.size w (((w.alloc (.cells #[] 3)).alloc (.cells #[.int .i64 z] 3)).drew)) := Lib.hid ((((Below.refl _ _).alloc (Nat.le_refl _) _).alloc (by simp) _).drew)
          have RXB : Hid (Rd (((w.alloc (.cells #[] 3)).alloc (.cells #[.int .i64 z] 3)).drew) (some ⟨w.heap.size + 1, 0, none⟩) [.int .i64 z]) := Lib.hid (rd_new #[.int .i64 z] 3 (by simp))
          have RAB : Hid (Rd (((w.alloc (.cells #[] 3)).alloc (.cells #[.int .i64 z] 3)).drew) (some ⟨g, 0, none⟩) (cells1 (l.take k))) := Lib.hid (rd_take1 (HR.out.below BBB.out) k)
          have OC : Hid ((((w.alloc (.cells #[.int .i64 z] 3)).alloc (.cells #[] 3)).drew).ownsRow w.heap.size 3 1 (.slice (some ⟨w.heap.size + 1, 0, none⟩) 0 0) 0 []) := Lib.hid (own_empty' (by simp) (by simp))
          have BBC : Hid (Below w.heap.size w (((w.alloc (.cells #[.int .i64 z] 3)).alloc (.cells #[] 3)).drew)) := Lib.hid ((((Below.refl _ _).alloc (Nat.le_refl _) _).alloc (by simp) _).drew)
          have RXC : Hid (Rd (((w.alloc (.cells #[.int .i64 z] 3)).alloc (.cells #[] 3)).drew) (some ⟨w.heap.size, 0, none⟩) [.int .i64 z]) := Lib.hid ((rd_new #[.int .i64 z] 3 rfl).alloc _)
          have RAC : Hid (Rd (((w.alloc (.cells #[.int .i64 z] 3)).alloc (.cells #[] 3)).drew) (some ⟨g, 0, none⟩) (cells1 (l.take k))) := Lib.hid (rd_take1 (HR.out.below BBC.out) k)
          go_region_held3 (fun w' => True) (first | go_keep | exact trivial) (first
            | (refine step_app rfl (.tmp 33) (.tmp 36) 27 rfl w.heap.size 3 _ 1 8 Tryd.underlying27 infoI rfl (by omega) (.slice (some ⟨w.heap.size, 0, none⟩) 0 0) 0 [] (by simp [Act.eval, Act.put]) (by with_reducible exact OA.out) (some ⟨g, 0, none⟩) k k (cells1 (l.take k)) (by simp [Act.eval, Act.put]) HK5.out (RAA.out) (oneCell_ints _) (by unfold maxLen; omega) (by omega) (by first | exact Nat.le_refl _ | exact B4.size | exact (B4.alloc B4.size _).size | exact B5.size | (simp <;> omega)) ?_; intro v4 w4 o4 g4w _; have B4 := BBA.out.grown g4w BBA.out.size (fun j hj => (OA.out.lt j hj).1))
            | (refine step_app rfl (.tmp 33) (.tmp 36) 27 rfl w.heap.size 3 _ 1 8 Tryd.underlying27 infoI rfl (by omega) (.slice (some ⟨w.heap.size, 0, none⟩) 0 0) 0 [] (by simp [Act.eval, Act.put]) (by with_reducible exact OB.out) (some ⟨g, 0, none⟩) k k (cells1 (l.take k)) (by simp [Act.eval, Act.put]) HK5.out (RAB.out) (oneCell_ints _) (by unfold maxLen; omega) (by omega) (by first | exact Nat.le_refl _ | exact B4.size | exact (B4.alloc B4.size _).size | exact B5.size | (simp <;> omega)) ?_; intro v4 w4 o4 g4w _; have B4 := BBB.out.grown g4w BBB.out.size (fun j hj => (OB.out.lt j hj).1); have RX4 := rd_grown g4w RXB.out (by simp <;> omega) (by simp [Value.ownBlock]))
            | (refine step_app rfl (.tmp 33) (.tmp 36) 27 rfl w.heap.size 3 _ 1 8 Tryd.underlying27 infoI rfl (by omega) (.slice (some ⟨w.heap.size + 1, 0, none⟩) 0 0) 0 [] (by simp [Act.eval, Act.put]) (by with_reducible exact OC.out) (some ⟨g, 0, none⟩) k k (cells1 (l.take k)) (by simp [Act.eval, Act.put]) HK5.out (RAC.out) (oneCell_ints _) (by unfold maxLen; omega) (by omega) (by first | exact Nat.le_refl _ | exact B4.size | exact (B4.alloc B4.size _).size | exact B5.size | (simp <;> omega)) ?_; intro v4 w4 o4 g4w _; have B4 := BBC.out.grown g4w BBC.out.size (fun j hj => (OC.out.lt j hj).1); have RX4 := rd_grown g4w RXC.out (by simp <;> omega) (by simp [Value.ownBlock]))
            | (refine step_app rfl (.tmp 37) (.tmp 39) 27 rfl w.heap.size 3 _ 1 8 Tryd.underlying27 infoI rfl (by omega) v4 _ _ (by simp [Act.eval, Act.put]) (by with_reducible exact o4.alloc _) (some ⟨w4.heap.size, 0, none⟩) 1 1 [.int .i64 z] (by simp [Act.eval, Act.put]) rfl (rd_new #[.int .i64 z] 3 rfl) (oneCell_ints [z]) (by unfold maxLen; omega) (by omega) (by first | exact Nat.le_refl _ | exact B4.size | exact (B4.alloc B4.size _).size | exact B5.size | (simp <;> omega)) ?_; intro v5 w5 o5 g5w _; have B5 : Below w.heap.size w w5 := (B4.alloc B4.size _).grown g5w (B4.alloc B4.size _).size (fun j hj => (o4.lt j hj).1))
            | (refine step_app rfl (.tmp 37) (.tmp 39) 27 rfl w.heap.size 3 _ 1 8 Tryd.underlying27 infoI rfl (by omega) v4 _ _ (by simp [Act.eval, Act.put]) (by with_reducible exact o4) (some ⟨(w.heap.size + 1), 0, none⟩) 1 1 [.int .i64 z] (by simp [Act.eval, Act.put]) rfl (RX4) (oneCell_ints [z]) (by unfold maxLen; omega) (by omega) (by first | exact Nat.le_refl _ | exact B4.size | exact (B4.alloc B4.size _).size | exact B5.size | (simp <;> omega)) ?_; intro v5 w5 o5 g5w _; have B5 : Below w.heap.size w w5 := B4.grown g5w B4.size (fun j hj => (o4.lt j hj).1))
            | (refine step_app rfl (.tmp 37) (.tmp 39) 27 rfl w.heap.size 3 _ 1 8 Tryd.underlying27 infoI rfl (by omega) v4 _ _ (by simp [Act.eval, Act.put]) (by with_reducible exact o4) (some ⟨w.heap.size, 0, none⟩) 1 1 [.int .i64 z] (by simp [Act.eval, Act.put]) rfl (RX4) (oneCell_ints [z]) (by unfold maxLen; omega) (by omega) (by first | exact Nat.le_refl _ | exact B4.size | exact (B4.alloc B4.size _).size | exact B5.size | (simp <;> omega)) ?_; intro v5 w5 o5 g5w _; have B5 : Below w.heap.size w w5 := B4.grown g5w B4.size (fun j hj => (o4.lt j hj).1))
            | (refine step_app rfl (.tmp 40) (.tmp 43) 27 rfl w.heap.size 3 _ 1 8 Tryd.underlying27 infoI rfl (by omega) v5 _ _ (by simp [Act.eval, Act.put]) (by with_reducible exact o5) (some ⟨g, 0, none⟩) 0 (k - k) (cells1 (l.drop k)) (by simp [Act.eval, Act.put]) HD5.out (.inl (List.eq_nil_of_length_eq_zero HD5.out)) (oneCell_ints _) (by unfold maxLen; omega) (by omega) (by first | exact Nat.le_refl _ | exact B4.size | exact (B4.alloc B4.size _).size | exact B5.size | (simp <;> omega)) ?_; intro v6 w6 o6 g6w _; have B6 : Below w.heap.size w w6 := B5.grown g6w B5.size (fun j hj => (o5.lt j hj).1)))
          all_goals go_goals
          all_goals (
            have EC : [] ++ cells1 (l.take k) ++ [.int .i64 z] ++ cells1 (l.drop k) = cells1 (putV l z) := by rw [HPX.out, List.nil_append, List.append_assoc, cells1_append]; rfl
            have EN : 0 + k + 1 + 0 = (putV l z).length := by rw [HPX.out, List.length_append, List.length_cons, List.length_take, List.length_drop]; have := HNL.out; omega
            rw [EC, EN] at o6
            clear EC EN
            have O6 := Lib.hid (own_mono o6 hlo)
            have B6H := Lib.hid B6
            clear o6 o5 o4 g4w g5w g6w B4 B5 B6 OA OB OC BBA BBB BBC RAA RAB RAC RXB RXC
            go_wp2
            go_ret
            exact ⟨_, rfl, O6.out, B6H.out⟩)
        · have hck : ¬ cap = k := by omega
          go_wp2_with fail
          have HK5 := Lib.hid (show (cells1 (l.take k)).length = k * 1 by rw [length_cells1, List.length_take]; have := HNL.out; omega)
          have HD5 := Lib.hid (show (cells1 (l.drop k)).length = 0 * 1 by rw [length_cells1, List.length_drop]; have := HNL.out; omega)
          have OA : Hid (((w.alloc (.cells #[] 3)).drew).ownsRow w.heap.size 3 1 (.slice (some ⟨w.heap.size, 0, none⟩) 0 0) 0 []) := Lib.hid (own_empty w _ _ _ (Nat.le_refl _))
          have BBA : Hid (Below w.heap.size w ((w.alloc (.cells #[] 3)).drew)) := Lib.hid ((Below.refl _ _).alloc (Nat.le_refl _) _).drew
          have RAA : Hid (Rd ((w.alloc (.cells #[] 3)).drew) (some ⟨g, 0, none⟩) (cells1 (l.take k))) := Lib.hid (rd_take1 (HR.out.below BBA.out) k)
          have OB : Hid ((((w.alloc (.cells #[] 3)).alloc (.cells #[.int .i64 z] 3)).drew).ownsRow w.heap.size 3 1 (.slice (some ⟨w.heap.size, 0, none⟩) 0 0) 0 []) := Lib.hid ((own_empty w _ _ _ (Nat.le_refl _)).alloc _)
          have BBB : Hid (Below w.heap.size w (((w.alloc (.cells #[] 3)).alloc (.cells #[.int .i64 z] 3)).drew)) := Lib.hid ((((Below.refl _ _).alloc (Nat.le_refl _) _).alloc (by simp) _).drew)
          have RXB : Hid (Rd (((w.alloc (.cells #[] 3)).alloc (.cells #[.int .i64 z] 3)).drew) (some ⟨w.heap.size + 1, 0, none⟩) [.int .i64 z]) := Lib.hid (rd_new #[.int .i64 z] 3 (by simp))
          have RAB : Hid (Rd (((w.alloc (.cells #[] 3)).alloc (.cells #[.int .i64 z] 3)).drew) (some ⟨g, 0, none⟩) (cells1 (l.take k))) := Lib.hid (rd_take1 (HR.out.below BBB.out) k)
          have OC : Hid ((((w.alloc (.cells #[.int .i64 z] 3)).alloc (.cells #[] 3)).drew).ownsRow w.heap.size 3 1 (.slice (some ⟨w.heap.size + 1, 0, none⟩) 0 0) 0 []) := Lib.hid (own_empty' (by simp) (by simp))
          have BBC : Hid (Below w.heap.size w (((w.alloc (.cells #[.int .i64 z] 3)).alloc (.cells #[] 3)).drew)) := Lib.hid ((((Below.refl _ _).alloc (Nat.le_refl _) _).alloc (by simp) _).drew)
          have RXC : Hid (Rd (((w.alloc (.cells #[.int .i64 z] 3)).alloc (.cells #[] 3)).drew) (some ⟨w.heap.size, 0, none⟩) [.int .i64 z]) := Lib.hid ((rd_new #[.int .i64 z] 3 rfl).alloc _)
          have RAC : Hid (Rd (((w.alloc (.cells #[.int .i64 z] 3)).alloc (.cells #[] 3)).drew) (some ⟨g, 0, none⟩) (cells1 (l.take k))) := Lib.hid (rd_take1 (HR.out.below BBC.out) k)
          go_region_held3 (fun w' => True) (first | go_keep | exact trivial) (first
            | (refine step_app rfl (.tmp 33) (.tmp 36) 27 rfl w.heap.size 3 _ 1 8 Tryd.underlying27 infoI rfl (by omega) (.slice (some ⟨w.heap.size, 0, none⟩) 0 0) 0 [] (by simp [Act.eval, Act.put]) (by with_reducible exact OA.out) (some ⟨g, 0, none⟩) k cap (cells1 (l.take k)) (by simp [Act.eval, Act.put]) HK5.out (RAA.out) (oneCell_ints _) (by unfold maxLen; omega) (by omega) (by first | exact Nat.le_refl _ | exact B4.size | exact (B4.alloc B4.size _).size | exact B5.size | (simp <;> omega)) ?_; intro v4 w4 o4 g4w _; have B4 := BBA.out.grown g4w BBA.out.size (fun j hj => (OA.out.lt j hj).1))
            | (refine step_app rfl (.tmp 33) (.tmp 36) 27 rfl w.heap.size 3 _ 1 8 Tryd.underlying27 infoI rfl (by omega) (.slice (some ⟨w.heap.size, 0, none⟩) 0 0) 0 [] (by simp [Act.eval, Act.put]) (by with_reducible exact OB.out) (some ⟨g, 0, none⟩) k cap (cells1 (l.take k)) (by simp [Act.eval, Act.put]) HK5.out (RAB.out) (oneCell_ints _) (by unfold maxLen; omega) (by omega) (by first | exact Nat.le_refl _ | exact B4.size | exact (B4.alloc B4.size _).size | exact B5.size | (simp <;> omega)) ?_; intro v4 w4 o4 g4w _; have B4 := BBB.out.grown g4w BBB.out.size (fun j hj => (OB.out.lt j hj).1); have RX4 := rd_grown g4w RXB.out (by simp <;> omega) (by simp [Value.ownBlock]))
            | (refine step_app rfl (.tmp 33) (.tmp 36) 27 rfl w.heap.size 3 _ 1 8 Tryd.underlying27 infoI rfl (by omega) (.slice (some ⟨w.heap.size + 1, 0, none⟩) 0 0) 0 [] (by simp [Act.eval, Act.put]) (by with_reducible exact OC.out) (some ⟨g, 0, none⟩) k cap (cells1 (l.take k)) (by simp [Act.eval, Act.put]) HK5.out (RAC.out) (oneCell_ints _) (by unfold maxLen; omega) (by omega) (by first | exact Nat.le_refl _ | exact B4.size | exact (B4.alloc B4.size _).size | exact B5.size | (simp <;> omega)) ?_; intro v4 w4 o4 g4w _; have B4 := BBC.out.grown g4w BBC.out.size (fun j hj => (OC.out.lt j hj).1); have RX4 := rd_grown g4w RXC.out (by simp <;> omega) (by simp [Value.ownBlock]))
            | (refine step_app rfl (.tmp 37) (.tmp 39) 27 rfl w.heap.size 3 _ 1 8 Tryd.underlying27 infoI rfl (by omega) v4 _ _ (by simp [Act.eval, Act.put]) (by with_reducible exact o4.alloc _) (some ⟨w4.heap.size, 0, none⟩) 1 1 [.int .i64 z] (by simp [Act.eval, Act.put]) rfl (rd_new #[.int .i64 z] 3 rfl) (oneCell_ints [z]) (by unfold maxLen; omega) (by omega) (by first | exact Nat.le_refl _ | exact B4.size | exact (B4.alloc B4.size _).size | exact B5.size | (simp <;> omega)) ?_; intro v5 w5 o5 g5w _; have B5 : Below w.heap.size w w5 := (B4.alloc B4.size _).grown g5w (B4.alloc B4.size _).size (fun j hj => (o4.lt j hj).1))
            | (refine step_app rfl (.tmp 37) (.tmp 39) 27 rfl w.heap.size 3 _ 1 8 Tryd.underlying27 infoI rfl (by omega) v4 _ _ (by simp [Act.eval, Act.put]) (by with_reducible exact o4) (some ⟨(w.heap.size + 1), 0, none⟩) 1 1 [.int .i64 z] (by simp [Act.eval, Act.put]) rfl (RX4) (oneCell_ints [z]) (by unfold maxLen; omega) (by omega) (by first | exact Nat.le_refl _ | exact B4.size | exact (B4.alloc B4.size _).size | exact B5.size | (simp <;> omega)) ?_; intro v5 w5 o5 g5w _; have B5 : Below w.heap.size w w5 := B4.grown g5w B4.size (fun j hj => (o4.lt j hj).1))
            | (refine step_app rfl (.tmp 37) (.tmp 39) 27 rfl w.heap.size 3 _ 1 8 Tryd.underlying27 infoI rfl (by omega) v4 _ _ (by simp [Act.eval, Act.put]) (by with_reducible exact o4) (some ⟨w.heap.size, 0, none⟩) 1 1 [.int .i64 z] (by simp [Act.eval, Act.put]) rfl (RX4) (oneCell_ints [z]) (by unfold maxLen; omega) (by omega) (by first | exact Nat.le_refl _ | exact B4.size | exact (B4.alloc B4.size _).size | exact B5.size | (simp <;> omega)) ?_; intro v5 w5 o5 g5w _; have B5 : Below w.heap.size w w5 := B4.grown g5w B4.size (fun j hj => (o4.lt j hj).1))
            | (refine step_app rfl (.tmp 40) (.tmp 43) 27 rfl w.heap.size 3 _ 1 8 Tryd.underlying27 infoI rfl (by omega) v5 _ _ (by simp [Act.eval, Act.put]) (by with_reducible exact o5) (some ⟨g, 0 + k, none⟩) 0 (cap - k) (cells1 (l.drop k)) (by simp [Act.eval, Act.put]) HD5.out (.inl (List.eq_nil_of_length_eq_zero HD5.out)) (oneCell_ints _) (by unfold maxLen; omega) (by omega) (by first | exact Nat.le_refl _ | exact B4.size | exact (B4.alloc B4.size _).size | exact B5.size | (simp <;> omega)) ?_; intro v6 w6 o6 g6w _; have B6 : Below w.heap.size w w6 := B5.grown g6w B5.size (fun j hj => (o5.lt j hj).1)))
          all_goals go_goals
          all_goals (
            have EC : [] ++ cells1 (l.take k) ++ [.int .i64 z] ++ cells1 (l.drop k) = cells1 (putV l z) := by rw [HPX.out, List.nil_append, List.append_assoc, cells1_append]; rfl
            have EN : 0 + k + 1 + 0 = (putV l z).length := by rw [HPX.out, List.length_append, List.length_cons, List.length_take, List.length_drop]; have := HNL.out; omega
            rw [EC, EN] at o6
            clear EC EN
            have O6 := Lib.hid (own_mono o6 hlo)
            have B6H := Lib.hid B6
            clear o6 o5 o4 g4w g5w g6w B4 B5 B6 OA OB OC BBA BBB BBC RAA RAB RAC RXB RXC
            go_wp2
            go_ret
            exact ⟨_, rfl, O6.out, B6H.out⟩)
end Go.Proofs.YtehohkdipfphmaaDoor
