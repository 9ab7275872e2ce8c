/- Copies, comparisons, marks of lists of Treaty. -/
import Derived.Test.YtnaehlglpaadhaaIn
namespace Go.Proofs.Ytnaehlglpaadhaa
set_option linter.unusedVariables false
set_option linter.unusedSimpArgs false
open Go.RowKit

theorem info41 : (Try.prog.info? 41).map (fun i => (i.zero, i.size, i.bytes)) = some (some (.agg #[.int .i64 0, .int .i64 0, .int .i64 0, .int .i64 0, .int .i64 0]), 5, 40) := by kernel_rfl
theorem size41 : (Try.prog.info? 41).map (·.size) = some 5 := by kernel_rfl

theorem toTreaty_any (a0 a1 a2 a3 a4 : Int) (w : World) :
    Calls Try.prog 18 #[.agg #[.int .i64 a0, .int .i64 a1, .int .i64 a2, .int .i64 a3, .int .i64 a4]] w (Ret (.agg #[.int .i64 a0, .int .i64 a1, .int .i64 a2, .int .i64 a3, .int .i64 a4]) w) := by
  go_enter Try.func18, Try.ntmps18
  go_wp2
  refine bodyPost_ret (v := .agg #[.int .i64 a0, .int .i64 a1, .int .i64 a2, .int .i64 a3, .int .i64 a4]) (by simp [results, Try.results18, go_sem]) rfl ⟨rfl, ?_⟩
  exact (((Below.refl _ _).alloc (Nat.le_refl _) _).alloc (by simp) _).alloc (by simp; omega) _

theorem szTreatyS_any (A : Option Addr) (n c : Nat) (left : Int) (hn : n ≤ maxLen) (hl : 0 ≤ left) (hl2 : left ≤ 1048576) (w : World) :
    Calls Try.prog 4 #[.slice A n c, .int .i64 left] w (RetS (.int .i64 (szR left n)) w) := by
  unfold maxLen at hn
  by_cases h : left < n
  · go_enter Try.func4, Try.ntmps4
    go_wp2
    go_ret
    exact ⟨ret_int (by simp [szR, h]), rfl⟩
  · go_enter Try.func4, Try.ntmps4
    go_wp2
    go_ret
    exact ⟨ret_int (by rw [szR, if_neg (by omega)]), rfl⟩

/-- The loop's relation of toTreatyS. -/
def ToRel (W : World) (E g n : Nat) (xs : List R5) (k : Nat) (wr : World) : Prop :=
  ∃ rest, rest.length = (n - k) * 5 ∧ wr.ownsRow W.heap.size E 5 (.slice (some ⟨g, 0, none⟩) n n) n (cells5 (xs.take k) ++ rest) ∧ Below W.heap.size W wr
theorem ToRel.step {W wr w1 : World} {E g n k : Nat} {xs : List R5} {x : R5} (h : ToRel W E g n xs k wr) (hn : xs.length = n) (hk : xs[k]? = some x) (hb : Below wr.heap.size wr w1) (hg : W.heap.size ≤ g) :
    ToRel W E g n xs (k + 1) (w1.setCells g (k * 5) x.cells) := by
  obtain ⟨rest, hr, ho, hB⟩ := h
  have hkn : k < n := by have := (List.getElem?_eq_some_iff.1 hk).1; omega
  have hr' : rest.length = 5 + (n - (k + 1)) * 5 := by rw [hr]; have : n - k = (n - (k + 1)) + 1 := by omega
                                                       rw [this]; omega
  obtain ⟨old, post, rfl, ho5⟩ : ∃ old post, rest = old ++ post ∧ old.length = 5 := ⟨rest.take 5, rest.drop 5, by simp, by rw [List.length_take]; omega⟩
  have ho1 := own_below ho hb
  obtain ⟨h1, h2⟩ := own_setCells x.cells ho1 (k * 5)
  have hlen : (cells5 (xs.take k)).length = k * 5 := by rw [length_cells5, List.length_take]; congr 1; omega
  have hset := setAll_mid x.cells (cells5 (xs.take k)) old post (by rw [ho5]; rfl)
  rw [hlen] at hset
  rw [hset] at h1
  have htake : cells5 (xs.take (k + 1)) = cells5 (xs.take k) ++ x.cells := by
    rw [List.take_add_one, hk, cells5_append]; simp [cells5]
  refine ⟨post, by simp [ho5] at hr'; omega, ?_, (hB.trans (hb.mono hB.size)).grown h2 (Nat.le_trans hB.size hb.size) (fun j hj => by injection hj with hj; omega)⟩
  rw [htake, List.append_assoc]
  exact h1

set_option maxHeartbeats 400000 in
set_option maxRecDepth 20000 in
theorem toTreatyS_any (A : Option Addr) (n c : Nat) (xs : List R5) (w : World) (hn : xs.length = n) (hr : Rd w A (cells5 xs)) (h20 : n ≤ 1048576) :
    Calls Try.prog 6 #[.slice A n c] w (RetOwn 41 5 n (cells5 xs) w) := by
  have hmk := fun W => run_make_info (P := Try.prog) 27 41 _ 5 40 Try.underlying27 info41 n (by omega) (by omega) W
  have HS := Lib.hid size41
  go_enter Try.func6, Try.ntmps6
  go_wp2_with fail
  go_loopw [4] (fun i wr => ∃ k : Nat, k ≤ n ∧ i = .int .i64 k ∧ ToRel w 41 w.heap.size n xs k wr) (fun i _ => n - (intOf i).toNat)
  case atStart =>
    refine ⟨0, Nat.zero_le _, rfl, (madeCells (Value.cells (.agg #[.int .i64 0, .int .i64 0, .int .i64 0, .int .i64 0, .int .i64 0])) (n * 5)).toList, by simp [size_madeCells], ?_, (Below.refl _ _).alloc (Nat.le_refl _) _⟩
    exact own_made w w.heap.size 41 5 n _ (Nat.le_refl _) (by unfold maxLen; omega)
  case round =>
    obtain ⟨k, hk, rfl, hrel⟩ := hrel
    by_cases hlt : k < n
    · obtain ⟨x, hxk⟩ : ∃ x, xs[k]? = some x := ⟨xs[k], List.getElem?_eq_getElem (by omega)⟩
      have HR := Lib.hid hrel
      obtain ⟨rest, hrl, ho, hB⟩ := hrel
      obtain ⟨g, o, rfl, hg, c0, c1, c2, c3, c4⟩ := (hr.below hB).at5 hxk
      have HO := Lib.hid ho
      clear ho hr
      go_wp2_with fail
      refine (toTreaty_any _ _ _ _ _ _).mono ?_
      rintro e w1 ⟨rfl, hb1⟩
      have HT := Lib.hid (own_there (own_below HO.out hb1) (k * 5) 5 (by omega))
      go_wp2_with (refine wpList_store_mid (op := ⟨none, .store 41 (.tmp 21) (.tmp 20), _, _, _, _⟩) rfl _ _ _ rfl w.heap.size (k * 5) #[.int .i64 x.a, .int .i64 x.b, .int .i64 x.c, .int .i64 x.d, .int .i64 x.e] rfl rfl HT.out HS.out (one5 _ _ _ _ _) ?_)
      go_roundw
      case rel => exact ⟨k + 1, by omega, by go_num, HR.out.step hn hxk hb1 (Nat.le_refl _)⟩
      case measure => simp [intOf]; omega
    · go_wp2
      go_ret
      obtain ⟨rest, hrl, ho, hB⟩ := hrel
      have hkn : k = n := by omega
      subst hkn
      have : rest = [] := List.eq_nil_of_length_eq_zero (by simpa using hrl)
      subst this
      rw [List.append_nil, List.take_of_length_le (by omega)] at ho
      exact ⟨_, rfl, ho, hB⟩

theorem eqTreaty_same (a0 a1 a2 a3 a4 : Int) (w : World) :
    Calls Try.prog 24 #[.agg #[.int .i64 a0, .int .i64 a1, .int .i64 a2, .int .i64 a3, .int .i64 a4], .agg #[.int .i64 a0, .int .i64 a1, .int .i64 a2, .int .i64 a3, .int .i64 a4]] w (Ret (.bool true) w) := by
  go_enter Try.func24, Try.ntmps24
  go_wp2
  go_ret
  exact ⟨rfl, ((Below.refl _ _).alloc (Nat.le_refl _) _).alloc (by simp) _⟩

set_option maxHeartbeats 400000 in
theorem eqTreatyS_same (A B : Option Addr) (n c d : Nat) (xs : List R5) (w : World) (hn : xs.length = n) (hA : Rd w A (cells5 xs)) (hB : Rd w B (cells5 xs)) (h20 : n ≤ 1048576) :
    Calls Try.prog 9 #[.slice A n c, .slice B n d] w (Ret (.bool true) w) := by
  go_enter Try.func9, Try.ntmps9
  go_wp2_with fail
  go_loopw [4, 5] (fun r i wr => ∃ k : Nat, k ≤ n ∧ i = .int .i64 k ∧ r = .bool false ∧ Below w.heap.size w wr) (fun _ i _ => n - (intOf i).toNat)
  case atStart => exact ⟨0, Nat.zero_le _, rfl, rfl, Below.refl _ _⟩
  case round =>
    obtain ⟨k, hk, rfl, rfl, hb⟩ := hrel
    by_cases hlt : k < n
    · obtain ⟨x, hxk⟩ : ∃ x, xs[k]? = some x := ⟨xs[k], List.getElem?_eq_getElem (by omega)⟩
      obtain ⟨g, o, rfl, hg, c0, c1, c2, c3, c4⟩ := (hA.below hb).at5 hxk
      obtain ⟨g', o', rfl, hg', d0, d1, d2, d3, d4⟩ := (hB.below hb).at5 hxk
      clear hA hB hxk
      go_wp2_with fail
      refine wp_region_lat wr.heap.size (by kernel_rfl) (by kernel_rfl) ?_
      have LC := fun (u : Lat wr.heap.size wr) => u.cell
      repeat (go_big_quiet_step ((go_at_call 24; exact lat_call _ (Nat.le_refl _) (eqTreaty_same _ _ _ _ _ _))))
      refine wpQuiet_nil ?_
      intro w1 hb1
      clear LC
      go_wp2
      go_roundw
      case rel => exact ⟨k + 1, by omega, by go_num, rfl, hb.trans (hb1.mono hb.size)⟩
      case measure => simp [intOf]; omega
    · go_wp2
      go_ret
      exact ⟨rfl, hb⟩

set_option maxHeartbeats 400000 in
theorem markTreatyS_any (base n : Nat) (v : Value) (cs : List Value) (k0 : Int) (w : World) (ho : w.ownsRow base 41 5 v n cs) (h20 : n ≤ 1048576) (hk0 : 0 ≤ k0) (hk1 : k0 ≤ 1000000000000) :
    Calls Try.prog 10 #[v, .int .i64 k0] w (RetMark (k0 + 5 * n) base 41 5 v n (cells5 (marks5 k0 n)) w) := by
  rcases ho.2 with ⟨rfl, rfl⟩ | ⟨g, cap, cur, rfl, _⟩
  · go_enter Try.func10, Try.ntmps10
    go_wp2_with fail
    refine wp_loop_rounds 1 ?_
    rw [rounds_succ]
    go_wp2
    go_ret
    exact ⟨ret_int (by simp), World.ownsRow_nil _ _ _ _, World.grownBy.refl w _⟩
  · go_enter Try.func10, Try.ntmps10
    go_wp2_with fail
    go_loopw [1, 5] (fun q i wr => ∃ k : Nat, k ≤ n ∧ i = .int .i64 k ∧ q = .int .i64 (k0 + 5 * k) ∧ MarkRel5 w base 41 g n cap k0 k wr) (fun _ i _ => n - (intOf i).toNat)
    case atStart => exact ⟨0, Nat.zero_le _, rfl, by simp, cs, by simpa using ho.1, by simpa [marks5, cells5] using ho, World.grownBy.refl w _⟩
    case round =>
      obtain ⟨k, hk, rfl, rfl, hrel⟩ := hrel
      by_cases hlt : k < n
      · have HR := Lib.hid (hrel.step hlt)
        obtain ⟨rest, _, ho', hB⟩ := hrel
        have hth := own_there ho' (k * 5) 5 (by omega)
        obtain ⟨⟨v0, c0⟩, f0⟩ := (hth 0 (by omega)).imp_left Option.isSome_iff_exists.1
        obtain ⟨⟨v1, c1⟩, f1⟩ := (hth 1 (by omega)).imp_left Option.isSome_iff_exists.1
        obtain ⟨⟨v2, c2⟩, f2⟩ := (hth 2 (by omega)).imp_left Option.isSome_iff_exists.1
        obtain ⟨⟨v3, c3⟩, f3⟩ := (hth 3 (by omega)).imp_left Option.isSome_iff_exists.1
        obtain ⟨⟨v4, c4⟩, f4⟩ := (hth 4 (by omega)).imp_left Option.isSome_iff_exists.1
        clear hth ho' ho hB
        simp only [Nat.add_zero] at c0 f0
        go_wp2
        go_roundw
        case rel =>
          refine ⟨k + 1, by omega, by go_num, by go_num, ?_⟩
          exact HR.out
        case measure => simp [intOf]; omega
      · go_wp2
        go_ret
        obtain ⟨rest, hrl, ho, hB⟩ := hrel
        have hkn : k = n := by omega
        subst hkn
        have : rest = [] := List.eq_nil_of_length_eq_zero (by simpa using hrl)
        subst this
        rw [List.append_nil] at ho
        exact ⟨rfl, ho, hB⟩

end Go.Proofs.Ytnaehlglpaadhaa
