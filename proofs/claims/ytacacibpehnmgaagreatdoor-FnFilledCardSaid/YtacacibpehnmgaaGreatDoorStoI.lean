/- Stock book: SwapStrips. -/
import Derived.Test.YtacacibpehnmgaaGreatDoorStoH
import Derived.Test.YtacacibpehnmgaaGreatDoorStoD
namespace Go.Proofs.YtacacibpehnmgaaGreatDoor
set_option linter.unusedVariables false
set_option linter.unusedSimpArgs false
open Go.RowKit

theorem RdB.drew {w : World} {A : Option Addr} {xs : List BR} (h : RdB w A xs) : RdB w.drew A xs := h
theorem OwnB.drew {w : World} {lo E EI : Nat} {v : Value} {xs : List BR} {vs : List Value} (h : OwnB w lo E EI v xs vs) : OwnB w.drew lo E EI v xs vs := h
/-- The call returns a book in memory of its own, and a Bool. -/
def RetBB (E EI : Nat) (xs : List BR) (b : Bool) (W : World) : Ending → World → Prop := fun e w' => ∃ v vs, e = .returned (.tuple #[v, .bool b]) ∧ OwnB w' W.heap.size E EI v xs vs ∧ Below W.heap.size W w'

/-- Two rows exchange their slices. -/
theorem OwnB.swap {w : World} {lo E EI i k g n cap : Nat} {a b : Value} {xs : List BR} {vs : List Value} {x y : BR} (h : OwnB w lo E EI (.slice (some ⟨g, 0, none⟩) n cap) xs vs) (hn : xs.length = n) (hx : xs[i]? = some x) (hy : xs[k]? = some y) (ha : vs[i]? = some a) (hb : vs[k]? = some b) :
    OwnB ((w.setCell ⟨g, i * 2 + 1, none⟩ b).setCell ⟨g, k * 2 + 1, none⟩ a) lo E EI (.slice (some ⟨g, 0, none⟩) n cap) ((xs.set i ⟨x.id, y.ws⟩).set k ⟨y.id, x.ws⟩) ((vs.set i b).set k a) := by
  obtain ⟨hl, hr, hi, hap⟩ := h
  rw [hn] at hr
  have hil : i < xs.length := (List.getElem?_eq_some_iff.1 hx).1
  have hkl : k < xs.length := (List.getElem?_eq_some_iff.1 hy).1
  obtain ⟨h1, g1⟩ := hr.stored (i * 2 + 1) b
  obtain ⟨h2, g2⟩ := h1.stored (k * 2 + 1) a
  have gg := World.grownBy.trans g1 g2
  obtain ⟨z, hz, hzid⟩ : ∃ z, (xs.set i ⟨x.id, y.ws⟩)[k]? = some z ∧ z.id = y.id := by
    by_cases e : i = k
    · subst e
      rw [hx] at hy; injection hy with hy; subst hy
      exact ⟨_, List.getElem?_set_self hil, rfl⟩
    · exact ⟨y, by rw [List.getElem?_set_ne e]; exact hy, rfl⟩
  have keep : ∀ (j : Nat) (u : Value) (ws : List Int), vs[j]? = some u → w.ownsRow lo EI 1 u ws.length (cells1 ws) → ((w.setCell ⟨g, i * 2 + 1, none⟩ b).setCell ⟨g, k * 2 + 1, none⟩ a).ownsRow lo EI 1 u ws.length (cells1 ws) := fun j u ws hu ho =>
    ho.kept gg (hap.ne (i := j + 1) (j := 0) (by omega) (by simpa using hu) rfl)
  refine ⟨by simp [hl], ?_, fun j q u hq hu => ?_, ?_⟩
  · rw [cellsB_set_v a (by simp [hl]), ← hzid, cellsB_ws x.ws hz, cellsB_set_v b (by simp [hl]), cellsB_ws y.ws hx, List.length_set, List.length_set, hn]
    exact h2
  · by_cases ek : k = j
    · subst ek
      rw [List.getElem?_set_self (by simp [hkl])] at hq
      rw [List.getElem?_set_self (by simp [hl, hkl])] at hu
      injection hq with hq; injection hu with hu; subst hq; subst hu
      exact keep i a x.ws ha (hi i x a hx ha)
    · rw [List.getElem?_set_ne ek] at hq hu
      by_cases ei : i = j
      · subst ei
        rw [List.getElem?_set_self hil] at hq
        rw [List.getElem?_set_self (by omega)] at hu
        injection hq with hq; injection hu with hu; subst hq; subst hu
        exact keep k b y.ws hb (hi k y b hy hb)
      · rw [List.getElem?_set_ne ei] at hq hu
        exact keep j u q.ws hu (hi j q u hq hu)
  · refine hap.map (fun j => if j = i + 1 then k + 1 else if j = k + 1 then i + 1 else j) (fun p q e => ?_) (fun j u hu => ?_)
    · grind
    · cases j with
      | zero => simp at hu ⊢; exact hu
      | succ j =>
        simp only [List.getElem?_cons_succ] at hu
        by_cases ek : k = j
        · subst ek
          rw [List.getElem?_set_self (by simp [hl, hkl])] at hu
          injection hu with hu; subst hu
          by_cases ei : k = i
          · subst ei; simp [ha]
          · simp [ei, ha]
        · rw [List.getElem?_set_ne ek] at hu
          by_cases ei : i = j
          · subst ei
            rw [List.getElem?_set_self (by omega)] at hu
            injection hu with hu; subst hu
            simp [hb]
          · rw [List.getElem?_set_ne ei] at hu
            simp [show ¬ j = i by omega, show ¬ j = k by omega, hu]

/-- What SwapStrips returns. -/
def swB (xs : List BR) (a b : Int) : Bool := decide (0 ≤ findV xs a) && decide (0 ≤ findV xs b)
def swV (xs : List BR) (a b : Int) : List BR := if swB xs a b then withV (withV xs (findV xs a) (atB xs (findV xs b)).ws) (findV xs b) (atB xs (findV xs a)).ws else []
theorem withV_mem {xs : List BR} {i : Int} {ws : List Int} {x : BR} (h : x ∈ withV xs i ws) : x.ws = ws ∨ ∃ y ∈ xs, y.ws = x.ws := by
  obtain ⟨j, hj⟩ := List.mem_iff_getElem?.1 h
  simp only [withV, List.getElem?_mapIdx] at hj
  cases e : xs[j]? with
  | none => rw [e] at hj; simp at hj
  | some y =>
    rw [e] at hj
    simp only [Option.map_some, Option.some.injEq] at hj
    subst hj
    split
    · exact .inl rfl
    · exact .inr ⟨y, List.mem_of_getElem? e, rfl⟩
/-- A list of at most 8 rows of at most 13 widths. -/
def smallB (xs : List BR) : Prop := xs.length ≤ 8 ∧ ∀ x ∈ xs, x.ws.length ≤ 13
theorem smallB_nil : smallB [] := ⟨by simp, fun x h => by cases h⟩
theorem smallB_book {xs : List BR} (h : bookB xs = true) : smallB xs := ⟨(bookB_yes h).2, fun x hx => by have := (rowB_yes (bookB_rows h x hx)).2.1; omega⟩
theorem smallB_with {xs : List BR} {i : Int} {ws : List Int} (h : smallB xs) (hw : ws.length ≤ 13) : smallB (withV xs i ws) :=
  ⟨by rw [withV_len]; exact h.1, fun x hx => by
    rcases withV_mem hx with e | ⟨y, hy, e⟩
    · rw [e]; exact hw
    · rw [← e]; exact h.2 y hy⟩
theorem smallB_szB : ∀ {xs : List BR}, (∀ x ∈ xs, x.ws.length ≤ 13) → szB xs ≤ 14 * xs.length
  | [], _ => by simp [szB]
  | x :: xs, h => by
    have := smallB_szB (xs := xs) (fun y hy => h y (List.mem_cons_of_mem _ hy))
    have := h x (List.mem_cons_self ..)
    simp only [szB, List.length_cons]; omega
theorem smallB_n {xs : List BR} (h : smallB xs) : xs.length ≤ 1048576 := by have := h.1; omega
theorem smallB_w {xs : List BR} (h : smallB xs) : ∀ x ∈ xs, x.ws.length ≤ 1048576 := fun x hx => by have := h.2 x hx; omega
theorem smallB_s {xs : List BR} (h : smallB xs) : szB xs ≤ 2097152 := by have := smallB_szB h.2; have := h.1; omega
theorem sw_small (xs : List BR) (a b : Int) : smallB (swV xs a b) := by
  unfold swV
  split
  · rename_i h
    simp only [swB, Bool.and_eq_true, decide_eq_true_eq] at h
    rcases findV_cases xs a with e | ⟨hv, i, x, h1, -, hi, hx, -, hrx⟩
    · omega
    rcases findV_cases xs b with e | ⟨-, k, y, h2, -, hk, hy, -, hry⟩
    · omega
    rw [h1, h2, atB_at hx, atB_at hy]
    exact smallB_with (smallB_with (smallB_book hv) (by have := (rowB_yes hry).2.1; omega)) (by have := (rowB_yes hrx).2.1; omega)
  · exact smallB_nil
theorem sw_ways (xs : List BR) (a b : Int) : (swB xs a b = false ∧ (findV xs a = -1 ∨ findV xs b = -1)) ∨
    (swB xs a b = true ∧ bookB xs = true ∧ ∃ (i k : Nat) (x y : BR), findV xs a = i ∧ findV xs b = k ∧ i < xs.length ∧ k < xs.length ∧ xs[i]? = some x ∧ xs[k]? = some y ∧ rowB x.ws = true ∧ rowB y.ws = true ∧
      swV xs a b = withV (withV xs i y.ws) k x.ws) := by
  rcases findV_cases xs a with e | ⟨hv, i, x, h1, -, hi, hx, -, hrx⟩
  · exact .inl ⟨by simp [swB, e], .inl e⟩
  rcases findV_cases xs b with e | ⟨-, k, y, h2, -, hk, hy, -, hry⟩
  · exact .inl ⟨by simp [swB, e], .inr e⟩
  have hB : swB xs a b = true := by simp [swB, h1, h2]
  exact .inr ⟨hB, hv, i, k, x, y, h1, h2, hi, hk, hx, hy, hrx, hry, by rw [swV, if_pos hB, h1, h2, atB_at hx, atB_at hy]⟩

set_option maxRecDepth 20000 in
set_option maxHeartbeats 4000000 in
theorem specSwapStrips_any (A : Option Addr) (n c : Nat) (xs : List BR) (a b : Int) (w : World) (hn : xs.length = n) (hA : RdB w A xs) (h20 : n ≤ 1048576) (hw : ∀ x ∈ xs, x.ws.length ≤ 1048576) :
    Calls Tryz.prog 18 #[.slice A n c, .int .i64 a, .int .i64 b] w (RetBB 34 3 (swV xs a b) (swB xs a b) w) := by
  have C := Lib.hid (fun w z h => l27Find_any A n c xs z w hn h (by omega) (hw1 hw))
  have HA := Lib.hid hA
  rcases sw_ways xs a b with ⟨hB, hf⟩ | ⟨hB, hv, i, k, x, y, h1, h2, hi, hk, hx, hy, hrx, hry, hV⟩
  · rw [swV, hB, if_neg (by simp)]
    obtain ⟨p, hp⟩ : ∃ p, p = findV xs a := ⟨_, rfl⟩
    obtain ⟨q, hq⟩ : ∃ q, q = findV xs b := ⟨_, rfl⟩
    have C1 := Lib.hid (fun w h => C.out w a h)
    have C2 := Lib.hid (fun w h => C.out w b h)
    rw [← hp] at C1 hf
    rw [← hq] at C2 hf
    clear hp hq C hn hw hA hB
    by_cases hp0 : p < 0
    · have hd : decide (p < 0) = true := by simpa using hp0
      go_enter Tryz.func18, Tryz.ntmps18
      go_wp2_with fail
      refine (C1.out _ HA.out).mono ?_
      rintro e w1 ⟨rfl, b1⟩
      go_wp2_with fail
      refine (C2.out _ (HA.out.below b1)).mono ?_
      rintro e w2 ⟨rfl, b2⟩
      have hb2 := b1.trans (b2.mono b1.size)
      have hs2 := hb2.size
      go_wp2
      go_ret2
      exact ⟨_, [], rfl, ownB_empty _ _ _ _ hs2, hb2.alloc hs2 _⟩
    · have hd : decide (p < 0) = false := by simpa using hp0
      have hq0 : q < 0 := by omega
      have hd2 : decide (q < 0) = true := by simpa using hq0
      go_enter Tryz.func18, Tryz.ntmps18
      go_wp2_with fail
      refine (C1.out _ HA.out).mono ?_
      rintro e w1 ⟨rfl, b1⟩
      go_wp2_with fail
      refine (C2.out _ (HA.out.below b1)).mono ?_
      rintro e w2 ⟨rfl, b2⟩
      have hb2 := b1.trans (b2.mono b1.size)
      have hs2 := hb2.size
      go_wp2
      go_ret2
      exact ⟨_, [], rfl, ownB_empty _ _ _ _ hs2, hb2.alloc hs2 _⟩
  · rw [hV, hB]
    have C1 := Lib.hid (fun w h => C.out w a h)
    have C2 := Lib.hid (fun w h => C.out w b h)
    rw [h1] at C1
    rw [h2] at C2
    have HX := Lib.hid hx
    have HY := Lib.hid hy
    have HN := Lib.hid hn
    have HW := Lib.hid hw
    have hin : i < n := by omega
    have hkn : k < n := by omega
    have r1 := (rowB_yes hrx).2.1
    have r2 := (rowB_yes hry).2.1
    have hwx : ∀ z ∈ withV xs i y.ws, z.ws.length ≤ 1048576 := fun z hz => by
      rcases withV_mem hz with e | ⟨u, hu, e⟩
      · rw [e]; omega
      · rw [← e]; exact hw u hu
    have HWX := Lib.hid hwx
    have HLN := Lib.hid (show (withV xs i y.ws).length ≤ 1048576 by rw [withV_len]; omega)
    clear C hn hw hA hB h1 h2 hx hy hV hrx hry hv hi hk hwx
    go_enter Tryz.func18, Tryz.ntmps18
    go_wp2_with fail
    refine (C1.out _ HA.out).mono ?_
    rintro e w1 ⟨rfl, b1⟩
    go_wp2_with fail
    refine (C2.out _ (HA.out.below b1)).mono ?_
    rintro e w2 ⟨rfl, b2⟩
    have hb2 := Lib.hid (b1.trans (b2.mono b1.size))
    obtain ⟨g, o, Bx, cx, rfl, hg, c0, c1, -, -, hrdx⟩ := (HA.out.below hb2.out).at HX.out
    obtain ⟨g', o', By, cy, hA', hg', d0, d1, -, -, hrdy⟩ := (HA.out.below hb2.out).at HY.out
    injection hA' with hA'
    injection hA' with hA1 hA2
    subst hA1; subst hA2
    have HRX := Lib.hid hrdx
    have HRY := Lib.hid hrdy
    have HA2 := Lib.hid (HA.out.below hb2.out)
    clear hrdx hrdy hg' c0 d0 b1 b2
    go_wp2_with fail
    go_region_held3 (fun w' => w'.cell? ⟨g, o + i * 2 + 1, none⟩ = some (.slice Bx x.ws.length cx) ∧ w'.cell? ⟨g, o + k * 2 + 1, none⟩ = some (.slice By y.ws.length cy)) (first | go_keep | exact KE1 | exact KE2) (first
      | (go_at_call 37; (with_reducible refine (l27With_any A3 _ c3 (withV xs i y.ws) k Bx x.ws.length cx x.ws _ rfl OB.rd2 HLN.out HWX.out rfl ((HRX.out.drew).below b3) (by omega)).mono ?_); rintro e w4 ⟨v4, vs4, rfl, o4, b4⟩; have KE2 : w4.cell? ⟨g, o + i * 2 + 1, none⟩ = some (.slice Bx x.ws.length cx) ∧ w4.cell? ⟨g, o + k * 2 + 1, none⟩ = some (.slice By y.ws.length cy) := ⟨(b4.cell (p := ⟨g, o + i * 2 + 1, none⟩) hg3).trans KE1.1, (b4.cell (p := ⟨g, o + k * 2 + 1, none⟩) hg3).trans KE1.2⟩)
      | (go_at_call 37; (with_reducible refine (l27With_any (some ⟨g, o, none⟩) n c xs i By y.ws.length cy y.ws _ HN.out HA2.out.drew h20 HW.out rfl HRY.out.drew (by omega)).mono ?_); rintro e w3 ⟨v3, vs3, rfl, OB, b3⟩; obtain ⟨A3, c3, rfl⟩ := own_form OB.2.1; have KE1 : w3.cell? ⟨g, o + i * 2 + 1, none⟩ = some (.slice Bx x.ws.length cx) ∧ w3.cell? ⟨g, o + k * 2 + 1, none⟩ = some (.slice By y.ws.length cy) := ⟨(b3.cell (p := ⟨g, o + i * 2 + 1, none⟩) hg).trans c1, (b3.cell (p := ⟨g, o + k * 2 + 1, none⟩) hg).trans d1⟩; have hs3 : w2.heap.size ≤ w3.heap.size := b3.size; have hg3 : g < w3.heap.size := (by omega)))
    all_goals go_goals
    all_goals (
      have hs4 := b4.size
      have O4 := Lib.hid (o4.mono (Nat.le_trans hb2.out.size hs3))
      have B4 := Lib.hid ((hb2.out.drew.trans (b3.mono hb2.out.size)).trans (b4.mono (Nat.le_trans hb2.out.size hs3)))
      clear KE1 KE2 OB b3 o4 b4 c1 d1
      go_wp2_with fail
      go_ret2
      exact ⟨_, _, rfl, O4.out, B4.out⟩)
end Go.Proofs.YtacacibpehnmgaaGreatDoor
