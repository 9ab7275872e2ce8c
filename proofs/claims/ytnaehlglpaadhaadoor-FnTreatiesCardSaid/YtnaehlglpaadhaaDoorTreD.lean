/- The treaty in force between two posts, and the posts that have one: the program's search and the reference's find the same. -/
import Derived.Test.YtnaehlglpaadhaaDoorTreC
import Derived.Test.YtnaehlglpaadhaaDoorInts
import Derived.Test.YtnaehlglpaadhaaDoorChn
namespace Go.Proofs.YtnaehlglpaadhaaDoor
set_option linter.unusedVariables false
set_option linter.unusedSimpArgs false
open Go.RowKit

def hitB (a b day : Int) (x : R5) : Bool := decide ((x.a = a ∧ x.b = b ∨ x.a = b ∧ x.b = a) ∧ x.c ≤ day ∧ day ≤ x.d)
/-- The index of the treaty in force, or -1. -/
def atV (xs : List R5) (a b day : Int) : Int := idxV (hitB a b day) xs
def adjT (xs : List R5) (day u v : Int) : Bool := decide (0 ≤ atV xs u v day)
theorem trL_at {xs : List R5} (h : trL xs = true) {k : Nat} {x : R5} (hx : xs[k]? = some x) : trB x = true := by
  simp only [trL, Bool.and_eq_true] at h
  exact allG_at h.1 hx
theorem trL_mem {xs : List R5} (h : trL xs = true) {x : R5} (hx : x ∈ xs) : trB x = true := by
  obtain ⟨k, hk, rfl⟩ := List.getElem_of_mem hx
  exact trL_at h (List.getElem?_eq_getElem hk)
theorem trL_len {xs : List R5} (h : trL xs = true) : xs.length ≤ 20 := by
  simp only [trL, Bool.and_eq_true, decide_eq_true_eq] at h; exact h.2
theorem atV_cases (xs : List R5) (a b day : Int) : atV xs a b day = -1 ∧ (∀ x ∈ xs, hitB a b day x = false) ∨ ∃ (k : Nat) (x : R5), atV xs a b day = k ∧ xs[k]? = some x ∧ hitB a b day x = true := by
  rcases idxV_cases (hitB a b day) xs with h | ⟨k, x, h1, h2, h3, _⟩
  · exact .inl h
  · exact .inr ⟨k, x, h1, h2, h3⟩
theorem atV_bd {xs : List R5} {n : Nat} (hn : xs.length = n) (a b day : Int) : -1 ≤ atV xs a b day ∧ atV xs a b day < n := by
  rcases atV_cases xs a b day with ⟨h, _⟩ | ⟨k, x, h, hx, _⟩
  · omega
  · have := (List.getElem?_eq_some_iff.1 hx).1; omega
theorem adjT_true {xs : List R5} {day u v : Int} : adjT xs day u v = true ↔ ∃ x ∈ xs, hitB u v day x = true := by
  unfold adjT
  rw [decide_eq_true_eq]
  rcases atV_cases xs u v day with ⟨h, h0⟩ | ⟨k, x, h, hx, hh⟩
  · constructor
    · intro h'; omega
    · rintro ⟨x, hx, hh⟩; rw [h0 x hx] at hh; cases hh
  · exact ⟨fun _ => ⟨x, List.mem_of_getElem? hx, hh⟩, fun _ => by omega⟩
theorem hitB_sym (a b day : Int) (x : R5) : hitB a b day x = hitB b a day x := by
  unfold hitB; exact decide_eq_decide.2 (by constructor <;> rintro ⟨h | h, g⟩ <;> exact ⟨by omega, g⟩)
theorem atV_sym (xs : List R5) (a b day : Int) : atV xs a b day = atV xs b a day := by
  unfold atV; rw [show hitB a b day = hitB b a day from funext (hitB_sym a b day)]
theorem graphT {xs : List R5} (h : trL xs = true) (day : Int) : Graph (adjT xs day) where
  sym := fun x y => by unfold adjT; rw [atV_sym]
  rng := fun u v he => by
    obtain ⟨x, hx, hh⟩ := adjT_true.1 he
    have := trB_bd (trL_mem h hx)
    simp only [hitB, decide_eq_true_eq] at hh
    omega
theorem adjT_irr {xs : List R5} (h : trL xs = true) (day u : Int) : adjT xs day u u = false := by
  rw [Bool.eq_false_iff]; intro he
  obtain ⟨x, hx, hh⟩ := adjT_true.1 he
  have := trB_bd (trL_mem h hx)
  simp only [hitB, decide_eq_true_eq] at hh
  omega

set_option maxRecDepth 20000 in
set_option maxHeartbeats 1000000 in
theorem okHit_any (x : R5) (a b day : Int) (p q r : Nat) (w : World) (hx : x.a < x.b) (hp : w.cell? ⟨p, 0, none⟩ = some (.int .i64 a)) (hq : w.cell? ⟨q, 0, none⟩ = some (.int .i64 b)) (hr : w.cell? ⟨r, 0, none⟩ = some (.int .i64 day)) :
    Calls Tryd.prog 61 #[.agg #[.int .i64 x.a, .int .i64 x.b, .int .i64 x.c, .int .i64 x.d, .int .i64 x.e], .pointer (some ⟨p, 0, none⟩), .pointer (some ⟨q, 0, none⟩), .pointer (some ⟨r, 0, none⟩)] w (Ret (.bool (hitB a b day x)) w) := by
  have hlp := World.block_lt_of_cell? w _ hp
  have hlq := World.block_lt_of_cell? w _ hq
  have hlr := World.block_lt_of_cell? w _ hr
  rcases Int.lt_trichotomy a b with h | h | h
  · have h' : ¬ b < a := by omega
    go_enter Tryd.func61, Tryd.ntmps61
    go_wp2_with (go_at_call 46; refine (inRange_any _ _ _ _).mono ?_; rintro e w' ⟨rfl, rfl⟩)
    all_goals
      go_ret
      refine ⟨ret_bool ?_, (Below.refl _ _).alloc (Nat.le_refl _) _⟩
      go_light
      grind [hitB, inR]
  · subst h
    go_enter Tryd.func61, Tryd.ntmps61
    go_wp2_with (go_at_call 46; refine (inRange_any _ _ _ _).mono ?_; rintro e w' ⟨rfl, rfl⟩)
    all_goals
      go_ret
      refine ⟨ret_bool ?_, (Below.refl _ _).alloc (Nat.le_refl _) _⟩
      go_light
      grind [hitB, inR]
  · have h' : ¬ a < b := by omega
    go_enter Tryd.func61, Tryd.ntmps61
    go_wp2_with (go_at_call 46; refine (inRange_any _ _ _ _).mono ?_; rintro e w' ⟨rfl, rfl⟩)
    all_goals
      go_ret
      refine ⟨ret_bool ?_, (Below.refl _ _).alloc (Nat.le_refl _) _⟩
      go_light
      grind [hitB, inR]

set_option maxRecDepth 20000 in
set_option maxHeartbeats 1000000 in
theorem treIndexFunc_any (A : Option Addr) (n c : Nat) (xs : List R5) (a b day : Int) (p q r : Nat) (w : World) (hn : xs.length = n) (hA : Rd w A (cells5 xs)) (h20 : n ≤ 1048576) (hv : trL xs = true)
    (hp : w.cell? ⟨p, 0, none⟩ = some (.int .i64 a)) (hq : w.cell? ⟨q, 0, none⟩ = some (.int .i64 b)) (hr : w.cell? ⟨r, 0, none⟩ = some (.int .i64 day)) :
    Calls Tryd.prog 60 #[.slice A n c, .func (.func 61) #[] #[.pointer (some ⟨p, 0, none⟩), .pointer (some ⟨q, 0, none⟩), .pointer (some ⟨r, 0, none⟩)]] w (Ret (.int .i64 (atV xs a b day)) w) := by
  have hlp := World.block_lt_of_cell? w _ hp
  have hlq := World.block_lt_of_cell? w _ hq
  have hlr := World.block_lt_of_cell? w _ hr
  have HP := Lib.hid hp
  have HQ' := Lib.hid hq
  have HR' := Lib.hid hr
  have HV := Lib.hid hv
  clear hp hq hr hv
  go_enter Tryd.func60, Tryd.ntmps60
  go_wp2_with fail
  go_loopw [8, 4, 5] (fun i r _ wr => ∃ (k : Nat), k ≤ n ∧ i = .int .i64 k ∧ r = .int .i64 0 ∧ (∀ (j : Nat) (y : R5), j < k → xs[j]? = some y → hitB a b day y = false) ∧ Below w.heap.size w wr) (fun i _ _ _ => n - (intOf i).toNat)
  case atStart => exact ⟨0, by omega, rfl, rfl, fun j y hj => by omega, Below.refl _ _⟩
  case round =>
    obtain ⟨k, hk, rfl, rfl, hrel, hb⟩ := hrel
    have HR := Lib.hid hrel
    clear hrel
    by_cases hlt : k < n
    · obtain ⟨x, hxk⟩ : ∃ x, xs[k]? = some x := ⟨xs[k], List.getElem?_eq_getElem (by omega)⟩
      obtain ⟨g, o, hAe, hg, c0, c1, c2, c3, c4⟩ := (hA.below hb).at5 hxk
      subst hAe
      have HX := Lib.hid hxk
      clear hxk hA
      go_wp2_with fail
      refine (okHit_any x a b day p q r _ (trB_bd (trL_at HV.out HX.out)).2.2.1 ((hb.cell (p := ⟨p, 0, none⟩) (by assumption)).trans HP.out) ((hb.cell (p := ⟨q, 0, none⟩) (by assumption)).trans HQ'.out) ((hb.cell (p := ⟨r, 0, none⟩) (by assumption)).trans HR'.out)).mono ?_
      rintro e w1 ⟨rfl, b1⟩
      have hb1 : Below w.heap.size w w1 := hb.trans (b1.mono hb.size)
      obtain ⟨z, hz⟩ : ∃ z, z = hitB a b day x := ⟨_, rfl⟩
      rw [← hz]
      have HQ := Lib.hid hz
      clear hz
      cases z with
      | true =>
        go_wp2
        go_ret
        exact ⟨ret_int (idxV_hit HR.out HX.out HQ.out.symm).symm, hb1⟩
      | false =>
        go_wp2
        go_roundw
        case rel =>
          refine ⟨k + 1, by omega, by go_num, rfl, fun j y hj hy => ?_, hb1⟩
          rcases Nat.lt_or_ge j k with h | h
          · exact HR.out j y h hy
          · have : j = k := by omega
            subst this; rw [HX.out] at hy; injection hy with hy; subst hy; exact HQ.out.symm
        case measure => simp [intOf]; omega
    · go_wp2
      go_ret
      exact ⟨ret_int (idxV_miss (fun j y hy => HR.out j y (by have := (List.getElem?_eq_some_iff.1 hy).1; omega) hy)).symm, hb⟩

theorem box3 (w : World) (x y z : Value) (t : TypeId) : (((w.alloc (.cells #[x] t)).alloc (.cells #[y] t)).alloc (.cells #[z] t)).cell? ⟨w.heap.size, 0, none⟩ = some x ∧
    (((w.alloc (.cells #[x] t)).alloc (.cells #[y] t)).alloc (.cells #[z] t)).cell? ⟨w.heap.size + 1, 0, none⟩ = some y ∧ (((w.alloc (.cells #[x] t)).alloc (.cells #[y] t)).alloc (.cells #[z] t)).cell? ⟨w.heap.size + 1 + 1, 0, none⟩ = some z := by
  have b1 := ((Below.refl (w.heap.size + 1) (w.alloc (.cells #[x] t))).alloc (by simp) (.cells #[y] t)).alloc (by simp) (.cells #[z] t)
  have b2 := (Below.refl (w.heap.size + 1 + 1) ((w.alloc (.cells #[x] t)).alloc (.cells #[y] t))).alloc (by simp) (.cells #[z] t)
  refine ⟨?_, ?_, ?_⟩
  · exact (b1.cell (p := ⟨w.heap.size, 0, none⟩) (by simp)).trans (World.cell?_alloc_at _ _ _ _ rfl)
  · exact (b2.cell (p := ⟨w.heap.size + 1, 0, none⟩) (by simp)).trans (World.cell?_alloc_at _ _ _ _ (by simp))
  · exact World.cell?_alloc_at _ _ _ _ (by simp)

set_option maxHeartbeats 1000000 in
theorem inForce_any (A : Option Addr) (n c : Nat) (xs : List R5) (a b day : Int) (w : World) (hn : xs.length = n) (hA : Rd w A (cells5 xs)) (hv : trL xs = true) :
    Calls Tryd.prog 38 #[.slice A n c, .int .i64 a, .int .i64 b, .int .i64 day] w (Ret (.int .i64 (atV xs a b day)) w) := by
  have HV := Lib.hid hv
  have h20 : n ≤ 20 := by have := trL_len hv; omega
  clear hv
  go_enter Tryd.func38, Tryd.ntmps38
  go_wp2_with fail
  refine (treIndexFunc_any A n c xs a b day w.heap.size (w.heap.size + 1) (w.heap.size + 1 + 1) _ hn (((hA.alloc _).alloc _).alloc _) (by omega) HV.out ?_ ?_ ?_).mono ?_
  · exact (box3 w _ _ _ _).1
  · exact (box3 w _ _ _ _).2.1
  · exact (box3 w _ _ _ _).2.2
  rintro e w1 ⟨rfl, b1⟩
  go_wp2
  go_ret
  exact ⟨rfl, ((((Below.refl _ _).alloc (Nat.le_refl _) _).alloc (by simp) _).alloc (by simp; omega) _).trans (b1.mono (by simp; omega))⟩

set_option maxRecDepth 20000 in
set_option maxHeartbeats 2000000 in
theorem l25At_any (A : Option Addr) (n c : Nat) (xs : List R5) (a b day : Int) (w : World) (hn : xs.length = n) (hA : Rd w A (cells5 xs)) (h20 : n ≤ 1048576) :
    Calls Tryd.prog 57 #[.slice A n c, .int .i64 a, .int .i64 b, .int .i64 day] w (Ret (.int .i64 (atV xs a b day)) w) := by
  go_enter Tryd.func57, Tryd.ntmps57
  go_wp2_with fail
  go_loopw [9, 8, 10] (fun i r _ wr => ∃ (k : Nat), k ≤ n ∧ i = .int .i64 k ∧ r = .int .i64 0 ∧ (∀ (j : Nat) (y : R5), j < k → xs[j]? = some y → hitB a b day y = false) ∧ Below w.heap.size w wr) (fun i _ _ _ => n - (intOf i).toNat)
  case atStart => exact ⟨0, by omega, rfl, rfl, fun j y hj => by omega, Below.refl _ _⟩
  case round =>
    obtain ⟨k, hk, rfl, rfl, hrel, hb⟩ := hrel
    have HR := Lib.hid hrel
    clear hrel
    by_cases hlt : k < n
    · obtain ⟨x, hxk⟩ : ∃ x, xs[k]? = some x := ⟨xs[k], List.getElem?_eq_getElem (by omega)⟩
      obtain ⟨g, o, hAe, hg, c0, c1, c2, c3, c4⟩ := (hA.below hb).at5 hxk
      subst hAe
      have HX := Lib.hid hxk
      have hb1 := Lib.hid (fun o => hb.alloc hb.size o)
      clear hxk hA
      go_wp2_with (go_at_call 48; refine (l1In_any _ _ _ _).mono ?_; rintro e w' ⟨rfl, rfl⟩)
      all_goals first
        | (go_ret
           refine ⟨ret_int (idxV_hit HR.out HX.out ?_).symm, hb1.out _⟩
           go_light
           grind [hitB, inR])
        | (have hh : hitB a b day x = false := by
             go_light
             grind [hitB, inR]
           have HH := Lib.hid hh
           clear hh
           go_roundw
           case rel =>
             refine ⟨k + 1, by omega, by go_num, rfl, fun j y hj hy => ?_, hb1.out _⟩
             rcases Nat.lt_or_ge j k with h | h
             · exact HR.out j y h hy
             · have : j = k := by omega
               subst this; rw [HX.out] at hy; injection hy with hy; subst hy; exact HH.out
           case measure => simp [intOf]; omega)
    · go_wp2
      go_ret
      exact ⟨ret_int (idxV_miss (fun j y hy => HR.out j y (by have := (List.getElem?_eq_some_iff.1 hy).1; omega) hy)).symm, hb⟩
end Go.Proofs.YtnaehlglpaadhaaDoor
