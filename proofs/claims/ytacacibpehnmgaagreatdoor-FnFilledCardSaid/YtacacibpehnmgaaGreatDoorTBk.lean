/- BookText: its values, joinInts, the reference's and the program's. -/
import Derived.Test.YtacacibpehnmgaaGreatDoorStoC
import Derived.Test.YtacacibpehnmgaaGreatDoorExt
import Derived.Test.YtacacibpehnmgaaGreatDoorDNum
import Derived.Test.YtacacibpehnmgaaGreatDoorShelfJ
namespace Go.Proofs.YtacacibpehnmgaaGreatDoor
set_option linter.unusedVariables false
set_option linter.unusedSimpArgs false
open Go.RowKit

def nuJ (z : Int) : ByteArray := numT z.toNat
theorem nuJ_size {z : Int} (h : z ≤ 1000000000000) : (nuJ z).size ≤ 13 := numT_size (by omega)
theorem l1Num_J (z : Int) (h0 : 0 ≤ z) (h : z ≤ 1000000000000) (w : World) : Calls Tryz.prog 54 #[.int .i64 z] w (Ret (.string (nuJ z)) w) := by
  have := l1Num_any z.toNat w (by omega)
  rw [Int.toNat_of_nonneg h0] at this
  exact this
theorem itoa_J (z : Int) (h0 : 0 ≤ z) (h : z ≤ 1000000000000) (w : World) (ht : Lib.TabIs Tryz.prog w "internal/strconv.uint64pow10" .u64 Lib.pow10Tab) : Calls Tryz.prog 52 #[.int .i64 z] w (Ret (.string (nuJ z)) w) := by
  have := itoa_any z.toNat (by omega) w ht
  rw [Int.toNat_of_nonneg h0] at this
  exact this

/-- The first k widths behind a text. -/
def bkW (s : ByteArray) (ws : List Int) : Nat → ByteArray
  | 0 => s
  | k + 1 => if k = 0 then bkW s ws k ++ nuJ (ws[k]?.getD 0) else (bkW s ws k ++ (⟨#[44]⟩ : ByteArray)) ++ nuJ (ws[k]?.getD 0)
def bkR (s : ByteArray) (x : BR) : ByteArray := bkW ((s ++ nuJ x.id) ++ (⟨#[58]⟩ : ByteArray)) x.ws x.ws.length ++ (⟨#[59]⟩ : ByteArray)
def bkP (xs : List BR) (k : Nat) : ByteArray := (xs.take k).foldl bkR ⟨#[]⟩
def bkV (xs : List BR) : ByteArray := if bookB xs = true then bkP xs xs.length else ⟨#[]⟩
theorem bkP_step {xs : List BR} {k : Nat} {x : BR} (h : xs[k]? = some x) : bkP xs (k + 1) = bkR (bkP xs k) x := by simp [bkP, List.take_add_one, h]

theorem bkW_size {s : ByteArray} {ws : List Int} (h : ∀ w ∈ ws, w ≤ 1000) : ∀ k, k ≤ ws.length → (bkW s ws k).size ≤ s.size + 14 * k
  | 0, _ => by simp [bkW]
  | k + 1, hk => by
    have ih := bkW_size (s := s) h k (by omega)
    have hw : ws[k]?.getD 0 ≤ 1000 := by rw [List.getElem?_eq_getElem (by omega)]; exact h _ (List.getElem_mem _)
    have hz := nuJ_size (z := ws[k]?.getD 0) (by omega)
    have l1 : ((⟨#[44]⟩ : ByteArray)).size = 1 := rfl
    simp only [bkW]
    split <;> simp only [ByteArray.size_append] <;> omega
theorem row_ws {x : BR} (h : rowB x.ws = true) : x.ws.length ≤ 12 ∧ ∀ w ∈ x.ws, 10 ≤ w ∧ w ≤ 60 := by
  obtain ⟨h1, h2, -⟩ := rowB_yes h
  refine ⟨h2, fun w hw => ?_⟩
  have := h1 w hw
  rw [wdB] at this
  exact inR_true.1 this
theorem bkR_size {s : ByteArray} {x : BR} (h1 : x.id ≤ 99) (h2 : rowB x.ws = true) : (bkR s x).size ≤ s.size + 190 := by
  obtain ⟨hl, hw⟩ := row_ws h2
  have a := bkW_size (s := (s ++ nuJ x.id) ++ (⟨#[58]⟩ : ByteArray)) (ws := x.ws) (fun w h => by have := (hw w h).2; omega) x.ws.length (Nat.le_refl _)
  have b := nuJ_size (z := x.id) (by omega)
  have l1 : ((⟨#[58]⟩ : ByteArray)).size = 1 := rfl
  have l2 : ((⟨#[59]⟩ : ByteArray)).size = 1 := rfl
  rw [bkR]
  simp only [ByteArray.size_append] at a ⊢
  omega
theorem bkP_size {xs : List BR} (h : bookB xs = true) : ∀ k, k ≤ xs.length → (bkP xs k).size ≤ 190 * k
  | 0, _ => Nat.le_refl 0
  | k + 1, hk => by
    have ih := bkP_size h k (by omega)
    have hx : xs[k]? = some xs[k] := List.getElem?_eq_getElem (by omega)
    obtain ⟨⟨-, a⟩, b⟩ := bookB_row h hx
    rw [bkP_step hx]
    have := bkR_size (s := bkP xs k) a b
    omega

/-! ### The joined words -/
def bsL (b : ByteArray) : List UInt8 := b.data.toList
theorem bsL_append (a b : ByteArray) : bsL (a ++ b) = bsL a ++ bsL b := by simp [bsL, ByteArray.data_append]
theorem bs_ext {a b : ByteArray} (h : bsL a = bsL b) : a = b := by
  cases a; cases b; simp [bsL] at h; rw [h]
theorem join_snoc (sep y : List UInt8) : ∀ (l : List (List UInt8)), l ≠ [] → Lib.join (l ++ [y]) sep = Lib.join l sep ++ (sep ++ y)
  | [], h => absurd rfl h
  | x :: r, _ => by simp [Lib.join_cons, Lib.joinTail]
def words (ws : List Int) : List ByteArray := ws.map nuJ
def joT (ws : List Int) : ByteArray := ⟨(Lib.join ((words ws).map (fun b => b.data.toList)) [44]).toArray⟩
theorem bkW_take (s : ByteArray) (ws : List Int) : ∀ k, k ≤ ws.length → bkW s ws k = s ++ joT (ws.take k)
  | 0, _ => by
    apply bs_ext
    rw [bsL_append]
    simp [bkW, joT, words, Lib.join_nil, bsL]
  | k + 1, hk => by
    have ih := bkW_take s ws k (by omega)
    have hx : ws[k]? = some ws[k] := List.getElem?_eq_getElem (by omega)
    have ht : ws.take (k + 1) = ws.take k ++ [ws[k]] := by rw [List.take_add_one, hx]; rfl
    simp only [bkW]
    rw [ih, hx, Option.getD_some, ht]
    by_cases h0 : k = 0
    · subst h0
      rw [if_pos rfl]
      apply bs_ext
      simp only [bsL_append, List.take_zero, List.nil_append]
      simp [joT, words, Lib.join_nil, Lib.join_one, bsL]
    · rw [if_neg h0]
      apply bs_ext
      simp only [bsL_append]
      have hne : (words (ws.take k)).map (fun b => b.data.toList) ≠ [] := by
        intro h
        have := congrArg List.length h
        simp only [words, List.length_map, List.length_take, List.length_nil] at this
        omega
      have := join_snoc [44] (bsL (nuJ ws[k])) _ hne
      have e' : ∀ (l : List Int) (z : Int), bsL (joT (l ++ [z])) = Lib.join ((words l).map (fun b => b.data.toList) ++ [bsL (nuJ z)]) [44] := fun l z => by simp [bsL, joT, words]
      have e := e' (ws.take k) ws[k]
      rw [e, this]
      simp [bsL, joT]
theorem bkW_join (s : ByteArray) (ws : List Int) : bkW s ws ws.length = s ++ joT ws := by rw [bkW_take s ws _ (Nat.le_refl _), List.take_length]
theorem joT_size {ws : List Int} (h : ∀ w ∈ ws, w ≤ 1000) : (joT ws).size ≤ 14 * ws.length := by
  have := bkW_size (s := ⟨#[]⟩) (ws := ws) h ws.length (Nat.le_refl _)
  rw [bkW_join, ByteArray.size_append] at this
  have l : ((⟨#[]⟩ : ByteArray)).size = 0 := rfl
  omega
def cellsT (ts : List ByteArray) : List Value := ts.map (.string ·)
theorem length_cellsT (ts : List ByteArray) : (cellsT ts).length = ts.length := by simp [cellsT]
theorem cellsT_append (xs ys : List ByteArray) : cellsT (xs ++ ys) = cellsT xs ++ cellsT ys := List.map_append
theorem oneCell_T (ts : List ByteArray) : ∀ u ∈ cellsT ts, u.oneCell' = true := by
  intro u hu
  simp only [cellsT, List.mem_map] at hu
  obtain ⟨x, _, rfl⟩ := hu
  rfl
theorem infoS : (Tryz.prog.info? 9).map (fun i => (i.zero, i.size, i.bytes)) = some (some (.string ⟨#[]⟩), 1, 16) := by kernel_rfl

theorem own_capT {w : World} {base e size n c : Nat} {A : Option Addr} {cs : List Value} (h : w.ownsRow base e size (.slice A n c) n cs) : n ≤ c := by
  rcases h.2 with ⟨h', h0⟩ | ⟨g, cap, cur, h', _, _, hnc, hcm, _⟩
  · injection h' with _ _ h3; omega
  · injection h' with _ _ h3; omega

set_option maxRecDepth 20000 in
set_option maxHeartbeats 2000000 in
theorem joinInts_any (A : Option Addr) (n c : Nat) (ws : List Int) (w : World) (hn : ws.length = n) (hA : Rd w A (cells1 ws)) (h12 : n ≤ 12) (hw : ∀ z ∈ ws, 0 ≤ z ∧ z ≤ 1000) (ht : ∀ w', Below w.heap.size w w' → Lib.TabIs Tryz.prog w' "internal/strconv.uint64pow10" .u64 Lib.pow10Tab) :
    Calls Tryz.prog 53 #[.slice A n c, .string ⟨#[44]⟩] w (Ret (.string (joT ws)) w) := by
  have HN := Lib.hid hn
  have HW := Lib.hid hw
  have HT := Lib.hid ht
  have HA := Lib.hid hA
  clear hn hw ht hA
  go_enter Tryz.func53, Tryz.ntmps53
  go_wp2_with fail
  go_loopw [5, 10] (fun v i wr => ∃ (k : Nat), k ≤ n ∧ i = .int .i64 k ∧ wr.ownsRow w.heap.size 9 1 v k (cellsT (words (ws.take k))) ∧ Below w.heap.size w wr) (fun _ i _ => n - (intOf i).toNat)
  case atStart => exact ⟨0, by omega, rfl, ⟨by simp [cellsT, words], .inl ⟨rfl, rfl⟩⟩, Below.refl _ _⟩
  case round =>
    obtain ⟨k, hk, rfl, ho, hb⟩ := hrel
    have HO := Lib.hid ho
    have HB := Lib.hid hb
    clear ho hb
    by_cases hlt : k < n
    · obtain ⟨z, hzk⟩ : ∃ z, ws[k]? = some z := ⟨ws[k]'(by have := HN.out; omega), List.getElem?_eq_getElem _⟩
      obtain ⟨hz0, hz1⟩ := HW.out z (List.mem_of_getElem? hzk)
      have HX := Lib.hid hzk
      obtain ⟨g, og, rfl, hg, c0⟩ := (HA.out.below HB.out).at1 hzk
      clear hzk
      have Cz := Lib.hid (fun w' h => itoa_J z (by omega) (by omega) w' (HT.out w' h))
      have zz : (nuJ z).size ≤ 13 := nuJ_size (by omega)
      obtain ⟨T, hT⟩ : ∃ T, T = nuJ z := ⟨_, rfl⟩
      rw [← hT] at Cz zz
      have HTE := Lib.hid hT
      clear hT
      go_wp2_with fail
      refine (Cz.out _ HB.out).mono ?_
      rintro e w4 ⟨rfl, b4⟩
      have HB4 := Lib.hid (HB.out.trans (b4.mono HB.out.size))
      have HO4 := Lib.hid (own_below HO.out b4)
      have hs4 := HB4.out.size
      clear b4 c0 hg
      have HO5 := Lib.hid (fun o1 => HO4.out.alloc o1)
      go_wp2_with (at_builtin; go_must (refine wpList_app _ rfl (.tmp 14) (.tmp 17) 74 rfl w.heap.size 9 (.string ⟨#[]⟩) 1 16 Tryz.underlying74 infoS rfl (by omega) _ k _ rfl (HO5.out _) _ 1 1 [.string T] rfl rfl (rd_new #[.string T] 9 (by simp)) (oneCell_T [T]) (by unfold maxLen; omega) (by omega) (by simp; omega) ?_); intro v' w' o' g' d')
      have HO6 := Lib.hid (show w'.ownsRow w.heap.size 9 1 v' (k + 1) (cellsT (words (ws.take (k + 1)))) from by
        have e : cellsT (words (ws.take (k + 1))) = cellsT (words (ws.take k)) ++ [.string T] := by
          rw [HTE.out, List.take_add_one, HX.out]; simp [words, cellsT]
        rw [e]; exact o')
      have HB6 := Lib.hid (((HB4.out.alloc hs4 _)).trans (below_app (HO5.out _) g' (by simp; omega) (Nat.le_refl _)))
      clear o' g' d'
      go_roundw
      case rel => exact ⟨k + 1, by omega, by go_num, HO6.out, HB6.out⟩
      case measure => simp [intOf]; omega
    · have hd : decide (k < n) = false := by simpa using hlt
      obtain rfl : k = n := by omega
      have ho := HO.out
      rw [← HN.out, List.take_length] at ho
      obtain ⟨A1, c1, rfl⟩ := own_form ho
      have HRR := Lib.hid (Rd.of_own ho)
      have hcap := own_capT ho
      have HJ : Hid (Calls Tryz.prog 67 #[.slice A1 ws.length c1, .string ⟨#[44]⟩] wr (Ret (.string (joT ws)) wr)) := Lib.hid (by
        rcases HRR.out with h0 | ⟨g, o, hA1, hg, hc⟩
        · have h1 : ws = [] := by
            have := congrArg List.length h0
            simp [cellsT, words] at this
            exact this
          subst h1
          refine (Tryz.strings_Join_none A1 c1 ⟨#[44]⟩ wr).mono ?_
          rintro e w' ⟨rfl, rfl⟩
          exact ⟨rfl, Below.refl _ _⟩
        · subst hA1
          have hl : (words ws).length = ws.length := by simp [words]
          have hj : (Lib.join ((words ws).map (fun b => b.data.toList)) [44]).length = (joT ws).size := by simp [joT, ByteArray.size]
          have hsz := joT_size (ws := ws) (fun w hw => (HW.out w hw).2)
          have := Tryz.strings_Join g o c1 (words ws) ⟨#[44]⟩ wr (fun j x hx => hc j (.string x) (by simp [cellsT, hx])) hg (by rw [hl, HN.out]; omega) (by rw [hl]; exact hcap) (by show (Lib.join ((words ws).map (fun b => b.data.toList)) [44]).length ≤ _; rw [hj]; have := HN.out; omega)
          rw [hl] at this
          exact this)
      clear ho hcap
      rw [← HN.out]
      go_wp2_with fail
      refine HJ.out.mono ?_
      rintro e w5 ⟨rfl, b5⟩
      have HB5 := Lib.hid (HB.out.trans (b5.mono HB.out.size))
      go_wp2
      go_ret
      exact ⟨rfl, HB5.out⟩
end Go.Proofs.YtacacibpehnmgaaGreatDoor
