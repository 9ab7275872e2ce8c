/- Approvals: SlowestClient. -/
import Derived.Test.YtehohkdipfphmaaDoorAppM
namespace Go.Proofs.YtehohkdipfphmaaDoor
set_option linter.unusedVariables false
set_option linter.unusedSimpArgs false
open Go.RowKit

theorem one_bd {x : AR} (h : oneA x = true) : (0 ≤ x.sent ∧ x.sent ≤ 4000) ∧ (x.back = -1 ∨ (x.sent ≤ x.back ∧ x.back ≤ 4000)) := by
  unfold oneA at h
  simp only [Bool.and_eq_true, g1A, inR_true] at h
  refine ⟨h.1.2.2.1, ?_⟩
  by_cases hb : x.back = -1
  · exact .inl hb
  · right
    have := h.2
    rw [if_neg hb] at this
    simp only [Bool.and_eq_true, g2A, inR_true, decide_eq_true_eq] at this
    omega
def slStep (p : ByteArray × Int) (x : AR) : ByteArray × Int := if x.back ≠ -1 ∧ p.2 < x.back - x.sent then (x.client, x.back - x.sent) else p
def slP (xs : List AR) (k : Nat) : ByteArray × Int := (xs.take k).foldl slStep (⟨#[]⟩, -1)
theorem slP_step {xs : List AR} {k : Nat} {x : AR} (h : xs[k]? = some x) : slP xs (k + 1) = slStep (slP xs k) x := by
  simp [slP, List.take_add_one, h]
theorem slP_yes {xs : List AR} {k : Nat} {x : AR} (h : xs[k]? = some x) (h1 : x.back ≠ -1) (h2 : (slP xs k).2 < x.back - x.sent) : slP xs (k + 1) = (x.client, x.back - x.sent) := by
  rw [slP_step h, slStep, if_pos ⟨h1, h2⟩]
theorem slP_no {xs : List AR} {k : Nat} {x : AR} (h : xs[k]? = some x) (h1 : ¬ (x.back ≠ -1 ∧ (slP xs k).2 < x.back - x.sent)) : slP xs (k + 1) = slP xs k := by
  rw [slP_step h, slStep, if_neg h1]
theorem slP_inv {xs : List AR} (hg : ∀ x ∈ xs, oneA x = true) : ∀ k : Nat, ((slP xs k).2 = -1 ∧ (slP xs k).1 = ⟨#[]⟩ ∨ 0 ≤ (slP xs k).2) ∧ (slP xs k).2 ≤ 4000
  | 0 => by simp [slP]
  | k + 1 => by
    have ih := slP_inv hg k
    cases hx : xs[k]? with
    | none =>
      have e : slP xs (k + 1) = slP xs k := by simp [slP, List.take_add_one, hx]
      rw [e]; exact ih
    | some x =>
      have hb := one_bd (hg x (List.mem_of_getElem? hx))
      by_cases h : x.back ≠ -1 ∧ (slP xs k).2 < x.back - x.sent
      · rw [slP_yes hx h.1 h.2]
        have := h.1
        refine ⟨.inr ?_, ?_⟩ <;> simp only <;> omega
      · rw [slP_no hx h]; exact ih
def slR (p : ByteArray × Int) : Value := .tuple #[.string p.1, .int .i64 (if p.2 < 0 then 0 else p.2), .bool (decide (0 ≤ p.2))]
noncomputable def slV (xs : List AR) : ByteArray × Int := if goodA xs = true then slP xs xs.length else (⟨#[]⟩, -1)
theorem goodA_ones {xs : List AR} (h : goodA xs = true) : ∀ x ∈ xs, oneA x = true := fun x hx => by
  obtain ⟨j, hj⟩ := List.mem_iff_getElem?.1 hx
  exact okAt_one ((goodA_yes h).1 j) hj

set_option maxRecDepth 20000 in
set_option maxHeartbeats 4000000 in
theorem specSlowestClient_any0 (A : Option Addr) (n c : Nat) (xs : List AR) (w : World) (hn : xs.length = n) (hA : RdA w A xs) (h20 : n ≤ 1048576) (hw : ∀ x ∈ xs, smA x) (hcap : n ≤ c ∧ c ≤ maxLen) :
    Calls Tryd.prog 19 #[.slice A n c] w (Ret (slR (slV xs)) w) := by
  have C0 := Lib.hid (fun w h => l28Good_any A n c xs w hn h (by omega) hw)
  have HA := Lib.hid hA
  cases hv : goodA xs with
  | false =>
    rw [hv] at C0
    have HV := Lib.hid (show slV xs = (⟨#[]⟩, -1) by rw [slV, if_neg (by rw [hv]; simp)])
    rw [HV.out]
    clear hv hn hw hA hcap
    go_enter Tryd.func19, Tryd.ntmps19
    go_wp2_with fail
    refine (C0.out _ HA.out).mono ?_
    rintro e w1 ⟨rfl, b1⟩
    go_wp2
    refine bodyPost_ret (v := .tuple #[.string ⟨#[]⟩, .int .i64 0, .bool false]) (by simp [results, Tryd.results19, go_sem]) rfl ?_
    exact ⟨rfl, b1⟩
  | true =>
    rw [hv] at C0
    have HV := Lib.hid (show slV xs = slP xs xs.length by rw [slV, if_pos hv])
    have HG := Lib.hid (goodA_ones hv)
    have HN := Lib.hid hn
    rw [HV.out]
    clear hv hn hw hA hcap
    go_enter Tryd.func19, Tryd.ntmps19
    go_wp2_with fail
    refine (C0.out _ HA.out).mono ?_
    rintro e w1 ⟨rfl, b1⟩
    go_wp2_with fail
    go_loopw [5, 6, 7] (fun s m i wr => ∃ (k : Nat) (p : ByteArray × Int), k ≤ n ∧ i = .int .i64 k ∧ p = slP xs k ∧ s = .string p.1 ∧ m = .int .i64 p.2 ∧ Below w.heap.size w wr) (fun _ _ i _ => n - (intOf i).toNat)
    case atStart => exact ⟨0, (⟨#[]⟩, -1), by omega, rfl, rfl, rfl, rfl, b1⟩
    case round =>
      obtain ⟨k, ⟨s, m⟩, hk, rfl, hp, rfl, rfl, hb⟩ := hrel
      have HP := Lib.hid hp
      have hinv := slP_inv HG.out k
      rw [← hp] at hinv
      have hm1 : -1 ≤ m := by have := hinv.1; simp only at this; omega
      have hm2 : m ≤ 4000 := hinv.2
      have HI := Lib.hid hinv
      clear hp hinv
      by_cases hlt : k < n
      · obtain ⟨x, hxk⟩ : ∃ x, xs[k]? = some x := ⟨xs[k]'(by have := HN.out; omega), List.getElem?_eq_getElem _⟩
        obtain ⟨g, o, B, cb, D, cd, rfl, hrow⟩ := (HA.out.below hb).at hxk
        obtain ⟨⟨s1, s2⟩, hbk⟩ := one_bd (HG.out x (List.mem_of_getElem? hxk))
        obtain ⟨hg, -, c0, c1, c2, c3, c4, c5, -, -, -, -, -, -⟩ := hrow
        have HX := Lib.hid hxk
        have t1 : -1 ≤ x.back := by omega
        have t2 : x.back ≤ 4000 := by omega
        have t3 : -4001 ≤ x.back - x.sent := by omega
        have t4 : x.back - x.sent ≤ 4000 := by omega
        clear hxk c3 c4 hbk
        by_cases q1 : x.back = -1
        · have e1 : (x.back == -1) = true := by simp [q1]
          have e2 : (x.back != -1) = false := by simp [q1]
          have HS := Lib.hid (show slP xs (k + 1) = (s, m) by rw [slP_no HX.out (fun h => h.1 q1), ← HP.out])
          clear q1
          go_wp2_with fail
          refine wp_region_lat wr.heap.size (by kernel_rfl) (by kernel_rfl) ?_
          have LC := fun (u : Lat wr.heap.size wr) => u.cell
          repeat (go_big_quiet_step (fail))
          refine wpQuiet_nil ?_
          intro w2 hw2
          have bc := fun i => (hw2.cell (p := ⟨g, i, none⟩) hg)
          have d5 := (bc _).trans c5
          have d1 := (bc _).trans c1
          clear LC bc c0 c1 c2 c5
          have hs2 := hw2.size
          go_wp2
          go_roundw
          case rel => exact ⟨k + 1, (s, m), by omega, by go_num, HS.out.symm, rfl, rfl, hb.trans (hw2.mono hb.size)⟩
          case measure => simp [intOf]; omega
        · have e1 : (x.back == -1) = false := by simp [q1]
          have e2 : (x.back != -1) = true := by simp [q1]
          by_cases q2 : m < x.back - x.sent
          · have e3 : decide (m < x.back - x.sent) = true := by simpa using q2
            have HS := Lib.hid (slP_yes HX.out q1 (by rw [← HP.out]; exact q2))
            clear q1
            go_wp2_with fail
            refine wp_region_lat wr.heap.size (by kernel_rfl) (by kernel_rfl) ?_
            have LC := fun (u : Lat wr.heap.size wr) => u.cell
            repeat (go_big_quiet_step (fail))
            refine wpQuiet_nil ?_
            intro w2 hw2
            have bc := fun i => (hw2.cell (p := ⟨g, i, none⟩) hg)
            have d5 := (bc _).trans c5
            have d1 := (bc _).trans c1
            clear LC bc c0 c1 c2 c5
            have hs2 := hw2.size
            go_wp2
            go_roundw
            case rel => exact ⟨k + 1, (x.client, x.back - x.sent), by omega, by go_num, HS.out.symm, rfl, by go_num, hb.trans (hw2.mono hb.size)⟩
            case measure => simp [intOf]; omega
          · have e3 : decide (m < x.back - x.sent) = false := by simpa using q2
            have HS := Lib.hid (show slP xs (k + 1) = (s, m) by rw [slP_no HX.out (fun h => q2 (by have := h.2; rw [← HP.out] at this; exact this)), ← HP.out])
            clear q1
            go_wp2_with fail
            refine wp_region_lat wr.heap.size (by kernel_rfl) (by kernel_rfl) ?_
            have LC := fun (u : Lat wr.heap.size wr) => u.cell
            repeat (go_big_quiet_step (fail))
            refine wpQuiet_nil ?_
            intro w2 hw2
            have bc := fun i => (hw2.cell (p := ⟨g, i, none⟩) hg)
            have d5 := (bc _).trans c5
            have d1 := (bc _).trans c1
            clear LC bc c0 c1 c2 c5
            have hs2 := hw2.size
            go_wp2
            go_roundw
            case rel => exact ⟨k + 1, (s, m), by omega, by go_num, HS.out.symm, rfl, rfl, hb.trans (hw2.mono hb.size)⟩
            case measure => simp [intOf]; omega
      · have hkn : k = xs.length := by have := HN.out; omega
        have HQ := Lib.hid (show slP xs xs.length = (s, m) by rw [← hkn, ← HP.out])
        have hd : decide (k < n) = false := by simpa using hlt
        by_cases q : m < 0
        · have e1 : decide (m < 0) = true := by simpa using q
          obtain ⟨rfl, rfl⟩ : s = ⟨#[]⟩ ∧ m = -1 := by
            rcases HI.out.1 with h | h
            · exact ⟨h.2, h.1⟩
            · simp only at h; omega
          clear hkn HI HP
          go_wp2
          refine bodyPost_ret (v := .tuple #[.string ⟨#[]⟩, .int .i64 0, .bool false]) (by simp [results, Tryd.results19, go_sem]) rfl ?_
          exact ⟨by rw [HQ.out]; simp [slR], hb⟩
        · have e1 : decide (m < 0) = false := by simpa using q
          have HE := Lib.hid (show slR (s, m) = .tuple #[.string s, .int .i64 m, .bool true] by simp only [slR]; rw [if_neg q, show decide (0 ≤ m) = true by simp; omega])
          clear hkn HI HP
          go_wp2
          refine bodyPost_ret (v := .tuple #[.string s, .int .i64 m, .bool true]) (by simp [results, Tryd.results19, go_sem]) rfl ?_
          exact ⟨by rw [HQ.out, HE.out], hb⟩

set_option maxRecDepth 20000 in
set_option maxHeartbeats 4000000 in
theorem implSlowestClient_any0 (A : Option Addr) (n c : Nat) (xs : List AR) (w : World) (hn : xs.length = n) (hA : RdA w A xs) (h20 : n ≤ 1048576) (hw : ∀ x ∈ xs, smA x) (hcap : n ≤ c ∧ c ≤ maxLen) :
    Calls Tryd.prog 18 #[.slice A n c] w (Ret (slR (slV xs)) w) := by
  have C0 := Lib.hid (fun w h => areApprovals_any A n c xs w hn h (by omega) hw hcap)
  have HA := Lib.hid hA
  cases hv : goodA xs with
  | false =>
    rw [hv] at C0
    have HV := Lib.hid (show slV xs = (⟨#[]⟩, -1) by rw [slV, if_neg (by rw [hv]; simp)])
    rw [HV.out]
    clear hv hn hw hA hcap
    go_enter Tryd.func18, Tryd.ntmps18
    go_wp2_with fail
    refine (C0.out _ HA.out).mono ?_
    rintro e w1 ⟨rfl, b1⟩
    go_wp2
    refine bodyPost_ret (v := .tuple #[.string ⟨#[]⟩, .int .i64 0, .bool false]) (by simp [results, Tryd.results18, go_sem]) rfl ?_
    exact ⟨rfl, b1⟩
  | true =>
    rw [hv] at C0
    have HV := Lib.hid (show slV xs = slP xs xs.length by rw [slV, if_pos hv])
    have HG := Lib.hid (goodA_ones hv)
    have HN := Lib.hid hn
    rw [HV.out]
    clear hv hn hw hA hcap
    go_enter Tryd.func18, Tryd.ntmps18
    go_wp2_with fail
    refine (C0.out _ HA.out).mono ?_
    rintro e w1 ⟨rfl, b1⟩
    go_wp2_with fail
    go_loopw [5, 6, 14] (fun s m i wr => ∃ (k : Nat) (p : ByteArray × Int), k ≤ n ∧ i = .int .i64 k ∧ p = slP xs k ∧ s = .string p.1 ∧ m = .int .i64 p.2 ∧ Below w.heap.size w wr) (fun _ _ i _ => n - (intOf i).toNat)
    case atStart => exact ⟨0, (⟨#[]⟩, -1), by omega, rfl, rfl, rfl, rfl, b1⟩
    case round =>
      obtain ⟨k, ⟨s, m⟩, hk, rfl, hp, rfl, rfl, hb⟩ := hrel
      have HP := Lib.hid hp
      have hinv := slP_inv HG.out k
      rw [← hp] at hinv
      have hm1 : -1 ≤ m := by have := hinv.1; simp only at this; omega
      have hm2 : m ≤ 4000 := hinv.2
      have HI := Lib.hid hinv
      clear hp hinv
      by_cases hlt : k < n
      · obtain ⟨x, hxk⟩ : ∃ x, xs[k]? = some x := ⟨xs[k]'(by have := HN.out; omega), List.getElem?_eq_getElem _⟩
        obtain ⟨g, o, B, cb, D, cd, rfl, hrow⟩ := (HA.out.below hb).at hxk
        obtain ⟨⟨s1, s2⟩, hbk⟩ := one_bd (HG.out x (List.mem_of_getElem? hxk))
        obtain ⟨hg, -, c0, c1, c2, c3, c4, c5, -, -, -, -, -, -⟩ := hrow
        have HX := Lib.hid hxk
        have t1 : -1 ≤ x.back := by omega
        have t2 : x.back ≤ 4000 := by omega
        have t3 : -4001 ≤ x.back - x.sent := by omega
        have t4 : x.back - x.sent ≤ 4000 := by omega
        have hba := hb.alloc hb.size (.cells #[.int .i64 x.id, .string x.client, .int .i64 x.sent, .slice B x.items.length cb, .slice D x.kept.length cd, .int .i64 x.back] 34)
        have HBA := Lib.hid hba
        clear hxk hbk hba
        by_cases q1 : 0 ≤ x.back
        · have e1 : decide (0 ≤ x.back) = true := by simpa using q1
          by_cases q2 : m < x.back - x.sent
          · have e3 : decide (m < x.back - x.sent) = true := by simpa using q2
            have HS := Lib.hid (slP_yes HX.out (by omega) (by rw [← HP.out]; exact q2))
            obtain ⟨W3, hW3⟩ : ∃ W3, W3 = wr.alloc (.cells #[.int .i64 x.id, .string x.client, .int .i64 x.sent, .slice B x.items.length cb, .slice D x.kept.length cd, .int .i64 x.back] 34) := ⟨_, rfl⟩
            have Y3 : Hid (Blk W3 wr.heap.size [.int .i64 x.id, .string x.client, .int .i64 x.sent, .slice B x.items.length cb, .slice D x.kept.length cd, .int .i64 x.back]) := Lib.hid (by rw [hW3]; exact Blk.new _ _ _)
            go_wp2_with fail
            rw [← hW3] at HBA ⊢
            have y1 := Y3.out.cell 1 _ rfl
            have y2 := Y3.out.cell 2 _ rfl
            have y5 := Y3.out.cell 5 _ rfl
            have hy := Y3.out.lt
            clear hW3 c0 c1 c2 c3 c4 c5
            refine wp_region_lat W3.heap.size (by kernel_rfl) (by kernel_rfl) ?_
            have LC := fun (u : Lat W3.heap.size W3) => u.cell
            repeat (go_big_quiet_step (fail))
            refine wpQuiet_nil ?_
            intro w2 hw2
            clear LC
            go_wp2
            go_roundw
            case rel => exact ⟨k + 1, (x.client, x.back - x.sent), by omega, by go_num, HS.out.symm, rfl, by go_num, HBA.out.trans (hw2.mono HBA.out.size)⟩
            case measure => simp [intOf]; omega
          · have e3 : decide (m < x.back - x.sent) = false := by simpa using q2
            have HS := Lib.hid (show slP xs (k + 1) = (s, m) by rw [slP_no HX.out (fun h => q2 (by have := h.2; rw [← HP.out] at this; exact this)), ← HP.out])
            go_wp2
            go_roundw
            case rel => exact ⟨k + 1, (s, m), by omega, by go_num, HS.out.symm, rfl, rfl, HBA.out⟩
            case measure => simp [intOf]; omega
        · have e1 : decide (0 ≤ x.back) = false := by simpa using q1
          have HS := Lib.hid (show slP xs (k + 1) = (s, m) by rw [slP_no HX.out (fun h => h.1 (by omega)), ← HP.out])
          go_wp2
          go_roundw
          case rel => exact ⟨k + 1, (s, m), by omega, by go_num, HS.out.symm, rfl, rfl, HBA.out⟩
          case measure => simp [intOf]; omega
      · have hkn : k = xs.length := by have := HN.out; omega
        have HQ := Lib.hid (show slP xs xs.length = (s, m) by rw [← hkn, ← HP.out])
        have hd : decide (k < n) = false := by simpa using hlt
        by_cases q : m < 0
        · obtain ⟨rfl, rfl⟩ : s = ⟨#[]⟩ ∧ m = -1 := by
            rcases HI.out.1 with h | h
            · exact ⟨h.2, h.1⟩
            · simp only at h; omega
          clear hkn HI HP
          go_wp2
          refine bodyPost_ret (v := .tuple #[.string ⟨#[]⟩, .int .i64 0, .bool false]) (by simp [results, Tryd.results18, go_sem]) rfl ?_
          exact ⟨by rw [HQ.out]; simp [slR], hb⟩
        · have HE := Lib.hid (show slR (s, m) = .tuple #[.string s, .int .i64 m, .bool true] by simp only [slR]; rw [if_neg q, show decide (0 ≤ m) = true by simp; omega])
          have e1 : decide (0 ≤ m) = true := by simp; omega
          clear hkn HI HP
          by_cases q0 : m = 0
          · subst q0
            go_wp2
            refine bodyPost_ret (v := .tuple #[.string s, .int .i64 0, .bool true]) (by simp [results, Tryd.results18, go_sem]) rfl ?_
            exact ⟨by rw [HQ.out, HE.out], hb⟩
          · have e2 : 0 < m := by omega
            have e3 : ¬ m ≤ 0 := by omega
            go_wp2
            refine bodyPost_ret (v := .tuple #[.string s, .int .i64 m, .bool true]) (by simp [results, Tryd.results18, go_sem]) rfl ?_
            exact ⟨by rw [HQ.out, HE.out], hb⟩
noncomputable def slN (xs : List AR) : Int := if (slV xs).2 < 0 then 0 else (slV xs).2
noncomputable def slS (xs : List AR) : ByteArray := (slV xs).1
noncomputable def slB (xs : List AR) : Bool := decide (0 ≤ (slV xs).2)
theorem specSlowestClient_any (A : Option Addr) (n c : Nat) (xs : List AR) (w : World) (hn : xs.length = n) (hA : RdA w A xs) (h20 : n ≤ 1048576) (hw : ∀ x ∈ xs, smA x) (hcap : n ≤ c ∧ c ≤ maxLen) :
    Calls Tryd.prog 19 #[.slice A n c] w (Ret (.tuple #[.string (slS xs), .int .i64 (slN xs), .bool (slB xs)]) w) := specSlowestClient_any0 A n c xs w hn hA h20 hw hcap
theorem implSlowestClient_any (A : Option Addr) (n c : Nat) (xs : List AR) (w : World) (hn : xs.length = n) (hA : RdA w A xs) (h20 : n ≤ 1048576) (hw : ∀ x ∈ xs, smA x) (hcap : n ≤ c ∧ c ≤ maxLen) :
    Calls Tryd.prog 18 #[.slice A n c] w (Ret (.tuple #[.string (slS xs), .int .i64 (slN xs), .bool (slB xs)]) w) := implSlowestClient_any0 A n c xs w hn hA h20 hw hcap
end Go.Proofs.YtehohkdipfphmaaDoor
