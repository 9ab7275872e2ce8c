/- What a bidder bought, and the bidder who bought most. -/
import Derived.Test.YtgjbnabfgngkjaaAucB
import Derived.Test.YtgjbnabfgngkjaaExt
namespace Go.Proofs.Ytgjbnabfgngkjaa
open Go.RowKit

def idsOf (p : R5 → Bool) (xs : List R5) : List Int := (xs.filter p).map (·.a)
theorem idsOf_take (p : R5 → Bool) {xs : List R5} {k : Nat} {x : R5} (h : xs[k]? = some x) : idsOf p (xs.take (k + 1)) = idsOf p (xs.take k) ++ if p x then [x.a] else [] := by
  rw [List.take_add_one, h]; simp only [idsOf, Option.toList, List.filter_append, List.map_append]
  by_cases hc : p x = true <;> simp [hc]
theorem idsOf_len (p : R5 → Bool) (xs : List R5) : (idsOf p xs).length ≤ xs.length := by simp only [idsOf, List.length_map]; exact List.length_filter_le _ _
theorem idsOf_take_len (p : R5 → Bool) (xs : List R5) (k : Nat) : (idsOf p (xs.take k)).length ≤ k := Nat.le_trans (idsOf_len _ _) (List.length_take_le _ _)

/-- A loop that appends the Ids of those with p. -/
def IdRel (W : World) (E : Nat) (p : R5 → Bool) (xs : List R5) (k : Nat) (v : Value) (wr : World) : Prop :=
  wr.ownsRow W.heap.size E 1 v (idsOf p (xs.take k)).length (cells1 (idsOf p (xs.take k))) ∧ Below W.heap.size W wr
theorem IdRel.yes {W wr w1 w2 : World} {E : Nat} {p : R5 → Bool} {xs : List R5} {k : Nat} {v v' : Value} {x : R5} (h : IdRel W E p xs k v wr) (hx : xs[k]? = some x) (hp : p x = true) (hb : Below W.heap.size wr w1)
    (ho1 : w1.ownsRow W.heap.size E 1 v (idsOf p (xs.take k)).length (cells1 (idsOf p (xs.take k)))) (ho : w2.ownsRow W.heap.size E 1 v' ((idsOf p (xs.take k)).length + 1) (cells1 (idsOf p (xs.take k)) ++ [.int .i64 x.a])) (hg : w1.grownBy w2 v.ownBlock) : IdRel W E p xs (k + 1) v' w2 := by
  obtain ⟨_, hB⟩ := h
  refine ⟨?_, (hB.trans hb).trans (below_app ho1 hg (hB.trans hb).size (Nat.le_refl _))⟩
  rw [idsOf_take p hx, if_pos hp, cells1_append, List.length_append]
  exact ho
theorem IdRel.no {W wr w1 : World} {E : Nat} {p : R5 → Bool} {xs : List R5} {k : Nat} {v : Value} {x : R5} (h : IdRel W E p xs k v wr) (hx : xs[k]? = some x) (hp : p x = false) (hb : Below W.heap.size wr w1) (ho1 : w1.ownsRow W.heap.size E 1 v (idsOf p (xs.take k)).length (cells1 (idsOf p (xs.take k)))) : IdRel W E p xs (k + 1) v w1 := by
  obtain ⟨_, hB⟩ := h
  refine ⟨?_, hB.trans hb⟩
  rw [idsOf_take p hx, if_neg (by simp [hp]), List.append_nil]
  exact ho1

set_option maxHeartbeats 1000000 in
theorem lotsBought_any (A : Option Addr) (n c : Nat) (xs : List R5) (b : Int) (w : World) (hn : xs.length = n) (hA : Rd w A (cells5 xs)) (hv : auc xs = true) (hb1 : 1 ≤ b) :
    Calls Try.prog 45 #[.slice A n c, .int .i64 b] w (RetOwnI 3 1 (idsOf (pSold b) xs).length (cells1 (idsOf (pSold b) xs)) (sumD (pSold b) xs) w) := by
  have h8 : n ≤ 8 := by have := auc_len hv; omega
  have HV := Lib.hid (fun k x h => auc_at hv (k := k) (x := x) h)
  clear hv
  go_enter Try.func45, Try.ntmps45
  go_wp2_with fail
  go_loopw [6, 7, 12, 9] (fun v s i _ wr => ∃ (k : Nat) (m : Int), k ≤ n ∧ i = .int .i64 k ∧ s = .int .i64 m ∧ SumRel w (pSold b) xs k m wr ∧ IdRel w 3 (pSold b) xs k v wr) (fun _ _ i _ _ => n - (intOf i).toNat)
  case atStart => exact ⟨0, 0, by omega, rfl, rfl, ⟨rfl, by omega, Below.refl _ _⟩, World.ownsRow_nil _ _ _ _, Below.refl _ _⟩
  case round =>
    obtain ⟨k, m, hk, rfl, rfl, hrel, hids⟩ := hrel
    have HR := Lib.hid hrel
    have HI := Lib.hid hids
    obtain ⟨-, hm, hb⟩ := hrel
    obtain ⟨ho, -⟩ := hids
    by_cases hlt : k < n
    · obtain ⟨x, hxk⟩ : ∃ x, xs[k]? = some x := ⟨xs[k], List.getElem?_eq_getElem (by omega)⟩
      obtain ⟨g, o, rfl, hg, c0, c1, c2, c3, c4⟩ := (hA.below hb).at5 hxk
      have HX := Lib.hid hxk
      have HB := Lib.hid (HV.out _ _ hxk)
      have hd := (lot_bd HB.out).2.2.1
      have hlen := idsOf_take_len (pSold b) xs k
      have HO1 := Lib.hid (fun o1 => ho.alloc o1)
      have HO2 := Lib.hid (fun o1 o2 => (ho.alloc o1).alloc o2)
      have HNE := Lib.hid (own_ne ho (Nat.le_refl _))
      clear hxk hA ho
      go_wp2_with (at_builtin; go_must (refine wpList_app _ rfl (.tmp 25) (.tmp 28) 31 rfl w.heap.size 3 _ 1 8 Try.underlying31 info3 rfl (by omega) _ _ _ rfl (HO2.out _ _) _ 1 1 [.int .i64 x.a] rfl rfl (rd_new #[.int .i64 x.a] 3 (by simp)) (oneCell_ints [x.a]) (by unfold maxLen; omega) (by omega) (by have := hb.size; simp; omega) ?_); intro v' w' o' g' d'; have kc := app_keep g' (b := wr.heap.size) (by simp; omega) HNE.out)
      · have hc : x.c = 2 := by assumption
        have he : (x.e == b) = true := by assumption
        have hp : pSold b x = true := by simp [pSold, hc, he]
        have R1 := Lib.hid (HR.out.next (w1 := w') (m' := m + x.d) HX.out HB.out (by rw [if_pos hp]) (((Below.refl _ _).alloc hb.size _).alloc (by have := hb.size; simp; omega) _ |>.trans (below_app (HO2.out _ _) g' (by have := hb.size; simp; omega) (Nat.le_refl _))))
        have R2 := Lib.hid (HI.out.yes HX.out hp (((Below.refl _ _).alloc hb.size _).alloc (by have := hb.size; simp; omega) _) (HO2.out _ _) o' g')
        go_roundw
        case rel => exact ⟨k + 1, _, by omega, by go_num, rfl, R1.out, R2.out⟩
        case measure => simp [intOf]; omega
      all_goals
        have hp : pSold b x = false := by clear HR HI HV; go_light; grind [pSold]
        have R1 := Lib.hid (fun o => HR.out.next (w1 := wr.alloc o) (m' := m) HX.out HB.out (by rw [if_neg (by simp [hp])]; simp) ((Below.refl _ _).alloc hb.size _))
        have R2 := Lib.hid (fun o => HI.out.no HX.out hp ((Below.refl _ _).alloc hb.size o) (HO1.out o))
        go_roundw
        case rel => exact ⟨k + 1, _, by omega, by go_num, rfl, R1.out _, R2.out _⟩
        case measure => simp [intOf]; omega
    · go_wp2
      refine bodyPost_ret (v := .tuple #[u6, .int .i64 m]) (by simp [results, Try.results45, go_sem]) rfl ?_
      obtain ⟨ho', hB⟩ := HI.out
      rw [List.take_of_length_le (by omega)] at ho'
      have hs := HR.out.all (by omega)
      subst hs
      exact ⟨_, rfl, ho', hB⟩
end Go.Proofs.Ytgjbnabfgngkjaa
