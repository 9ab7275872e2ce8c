/- Approvals: KeepShare. -/
import Derived.Test.YtehohkdipfphmaaDoorAppQ
namespace Go.Proofs.YtehohkdipfphmaaDoor
set_option linter.unusedVariables false
set_option linter.unusedSimpArgs false
open Go.RowKit

def ksStep (cl : ByteArray) (p : Nat × Nat) (x : AR) : Nat × Nat := if (x.client.toList == cl.toList) = true ∧ x.back ≠ -1 then (p.1 + x.kept.length, p.2 + x.items.length) else p
def ksP (xs : List AR) (cl : ByteArray) (k : Nat) : Nat × Nat := (xs.take k).foldl (ksStep cl) (0, 0)
theorem ksP_step {xs : List AR} {cl : ByteArray} {k : Nat} {x : AR} (h : xs[k]? = some x) : ksP xs cl (k + 1) = ksStep cl (ksP xs cl k) x := by simp [ksP, List.take_add_one, h]
theorem ksP_bd {xs : List AR} {cl : ByteArray} (hw : ∀ x ∈ xs, smA x) : ∀ k : Nat, (ksP xs cl k).1 ≤ 1048576 * k ∧ (ksP xs cl k).2 ≤ 1048576 * k
  | 0 => by simp [ksP]
  | k + 1 => by
    have ih := ksP_bd (cl := cl) hw k
    cases hx : xs[k]? with
    | none =>
      have e : ksP xs cl (k + 1) = ksP xs cl k := by simp [ksP, List.take_add_one, hx]
      rw [e]; omega
    | some x =>
      obtain ⟨-, h1, h2⟩ := hw x (List.mem_of_getElem? hx)
      rw [ksP_step hx, ksStep]
      split
      · refine ⟨?_, ?_⟩
        · show (ksP xs cl k).1 + x.kept.length ≤ 1048576 * (k + 1); omega
        · show (ksP xs cl k).2 + x.items.length ≤ 1048576 * (k + 1); omega
      · omega
noncomputable def ksB (xs : List AR) (cl : ByteArray) : Bool := goodA xs && (wordB cl && decide (0 < (ksP xs cl xs.length).2))
noncomputable def ksN (xs : List AR) (cl : ByteArray) : Int := if ksB xs cl = true then (((ksP xs cl xs.length).1 / Nat.gcd (ksP xs cl xs.length).1 (ksP xs cl xs.length).2 : Nat) : Int) else 0
noncomputable def ksD (xs : List AR) (cl : ByteArray) : Int := if ksB xs cl = true then (((ksP xs cl xs.length).2 / Nat.gcd (ksP xs cl xs.length).1 (ksP xs cl xs.length).2 : Nat) : Int) else 0
def RetIIB (a b : Int) (q : Bool) (W : World) : Ending → World → Prop := fun e w' => e = .returned (.tuple #[.int .i64 a, .int .i64 b, .bool q]) ∧ Below W.heap.size W w'


set_option maxRecDepth 20000 in
set_option maxHeartbeats 4000000 in
theorem specKeepShare_any (A : Option Addr) (n c : Nat) (xs : List AR) (cl : ByteArray) (w : World) (hn : xs.length = n) (hA : RdA w A xs) (h20 : n ≤ 1048576) (hw : ∀ x ∈ xs, smA x) (hcap : n ≤ c ∧ c ≤ maxLen) (hcl : (cl.size : Int) ≤ 1048576) :
    Calls Tryd.prog 13 #[.slice A n c, .string cl] w (Ret (.tuple #[.int .i64 (ksN xs cl), .int .i64 (ksD xs cl), .bool (ksB xs cl)]) w) := by
  have C0 := Lib.hid (fun w h => l28Good_any A n c xs w hn h (by omega) hw)
  have C1 := Lib.hid (fun w => l2Word_any cl w (by omega))
  have HA := Lib.hid hA
  have HW := Lib.hid hw
  have HN := Lib.hid hn
  obtain ⟨X, hX⟩ : ∃ X, X = ksN xs cl := ⟨_, rfl⟩
  obtain ⟨Y, hY⟩ : ∃ Y, Y = ksD xs cl := ⟨_, rfl⟩
  obtain ⟨Q, hQ⟩ : ∃ Q, Q = ksB xs cl := ⟨_, rfl⟩
  rw [← hX, ← hY, ← hQ]
  have HX := Lib.hid hX
  have HY := Lib.hid hY
  have HQ := Lib.hid hQ
  clear hX hY hQ hn hA hw hcap
  cases h0 : goodA xs with
  | false =>
    have HF : Hid (ksB xs cl = false) := Lib.hid (by simp only [ksB, h0, Bool.false_and])
    rw [h0] at C0
    clear h0
    go_enter Tryd.func13, Tryd.ntmps13
    go_wp2_with fail
    refine (C0.out _ HA.out).mono ?_
    rintro e w1 ⟨rfl, b1⟩
    go_wp2
    refine bodyPost_ret (v := .tuple #[.int .i64 0, .int .i64 0, .bool false]) (by simp [results, Tryd.results13, go_sem]) rfl ?_
    exact ⟨by rw [HX.out, HY.out, HQ.out, ksN, ksD, if_neg (by rw [HF.out]; simp), if_neg (by rw [HF.out]; simp), HF.out], b1⟩
  | true =>
    rw [h0] at C0
    cases h1 : wordB cl with
    | false =>
      have HF : Hid (ksB xs cl = false) := Lib.hid (by simp only [ksB, h0, h1, Bool.true_and, Bool.false_and])
      rw [h1] at C1
      clear h0 h1
      go_enter Tryd.func13, Tryd.ntmps13
      go_wp2_with fail
      refine (C0.out _ HA.out).mono ?_
      rintro e w1 ⟨rfl, b1⟩
      go_wp2_with fail
      refine (C1.out _).mono ?_
      rintro e w2 ⟨rfl, rfl⟩
      go_wp2
      refine bodyPost_ret (v := .tuple #[.int .i64 0, .int .i64 0, .bool false]) (by simp [results, Tryd.results13, go_sem]) rfl ?_
      exact ⟨by rw [HX.out, HY.out, HQ.out, ksN, ksD, if_neg (by rw [HF.out]; simp), if_neg (by rw [HF.out]; simp), HF.out], b1⟩
    | true =>
      rw [h1] at C1
      have HT : Hid (ksB xs cl = decide (0 < (ksP xs cl xs.length).2)) := Lib.hid (by simp only [ksB, h0, h1, Bool.true_and])
      have HG := Lib.hid h0
      have hn12 : n ≤ 12 := by have := (goodA_yes h0).2; have := HN.out; omega
      clear h0 h1
      go_enter Tryd.func13, Tryd.ntmps13
      go_wp2_with fail
      refine (C0.out _ HA.out).mono ?_
      rintro e w1 ⟨rfl, b1⟩
      go_wp2_with fail
      refine (C1.out _).mono ?_
      rintro e w2 ⟨rfl, rfl⟩
      go_wp2_with fail
      go_loopw [7, 8, 9] (fun p q i wr => ∃ k : Nat, k ≤ n ∧ i = .int .i64 k ∧ p = .int .i64 ((ksP xs cl k).1 : Nat) ∧ q = .int .i64 ((ksP xs cl k).2 : Nat) ∧ Below w.heap.size w wr) (fun _ _ i _ => n - (intOf i).toNat)
      case atStart => exact ⟨0, Nat.zero_le _, rfl, rfl, rfl, b1⟩
      case round =>
        obtain ⟨k, hk, rfl, rfl, rfl, hb⟩ := hrel
        obtain ⟨pb, qb⟩ := ksP_bd (cl := cl) HW.out k
        have HST := fun x (h : xs[k]? = some x) => ksP_step (cl := cl) h
        obtain ⟨⟨p, q⟩, hpq⟩ : ∃ u, u = ksP xs cl k := ⟨_, rfl⟩
        rw [← hpq] at pb qb HST ⊢
        simp only at pb qb
        have pb1 : p ≤ 1048576 * 12 := by omega
        have qb1 : q ≤ 1048576 * 12 := by omega
        have HPQ := Lib.hid hpq
        have HS0 := Lib.hid HST
        clear hpq HST pb qb
        by_cases hlt : k < n
        · obtain ⟨x, hxk⟩ : ∃ x, xs[k]? = some x := ⟨xs[k]'(by have := HN.out; omega), List.getElem?_eq_getElem _⟩
          obtain ⟨g, o, B, cb, D, cd, rfl, hrow⟩ := (HA.out.below hb).at hxk
          have HST := Lib.hid (HS0.out x hxk)
          obtain ⟨-, hsx, hsk⟩ := HW.out x (List.mem_of_getElem? hxk)
          have hbk := one_back (goodA_ones HG.out x (List.mem_of_getElem? hxk))
          obtain ⟨hg, -, c0, c1, c2, c3, c4, c5, -, -, -, -, -, -⟩ := hrow
          have HBA := Lib.hid (hb.alloc hb.size (.cells #[.int .i64 x.id, .string x.client, .int .i64 x.sent, .slice B x.items.length cb, .slice D x.kept.length cd, .int .i64 x.back] 34))
          clear hxk
          cases ec : (x.client.toList == cl.toList) with
          | false =>
            have HS := Lib.hid (show ksP xs cl (k + 1) = (p, q) by rw [HST.out, ksStep, if_neg (fun h => by rw [ec] at h; exact absurd h.1 (by simp))])
            go_wp2
            go_roundw
            case rel => exact ⟨k + 1, by omega, by go_num, by rw [HS.out], by rw [HS.out], hb⟩
            case measure => simp [intOf]; omega
          | true =>
            by_cases q2 : x.back = -1
            · have f2 : (x.back == -1) = true := by simp [q2]
              have f3 : (x.back != -1) = false := by simp [q2]
              have f4 : decide (0 ≤ x.back) = false := by simp [q2]
              have HS := Lib.hid (show ksP xs cl (k + 1) = (p, q) by rw [HST.out, ksStep, if_neg (fun h => h.2 q2)])
              clear q2 hbk
              go_wp2
              go_roundw
              case rel => exact ⟨k + 1, by omega, by go_num, by rw [HS.out], by rw [HS.out], hb⟩
              case measure => simp [intOf]; omega
            · have f2 : (x.back == -1) = false := by simp [q2]
              have f3 : (x.back != -1) = true := by simp [q2]
              have f4 : decide (0 ≤ x.back) = true := by simp; omega
              have HS := Lib.hid (show ksP xs cl (k + 1) = (p + x.kept.length, q + x.items.length) by rw [HST.out, ksStep, if_pos ⟨ec, q2⟩])
              clear q2 hbk
              go_wp2
              go_roundw
              case rel => exact ⟨k + 1, by omega, by go_num, by rw [HS.out]; go_num, by rw [HS.out]; go_num, hb⟩
              case measure => simp [intOf]; omega
        · have hkn : k = xs.length := by have := HN.out; omega
          rw [hkn] at HPQ
          have hdk : decide (k < n) = false := by simpa using hlt
          clear hkn HS0
          by_cases hq : q = 0
          · have HF : Hid (ksB xs cl = false) := Lib.hid (by rw [HT.out, ← HPQ.out]; simp [hq])
            have e0 : ((q : Int) == 0) = true := by simp [hq]
            clear hq
            go_wp2
            refine bodyPost_ret (v := .tuple #[.int .i64 0, .int .i64 0, .bool false]) (by simp [results, Tryd.results13, go_sem]) rfl ?_
            exact ⟨by rw [HX.out, HY.out, HQ.out, ksN, ksD, if_neg (by rw [HF.out]; simp), if_neg (by rw [HF.out]; simp), HF.out], hb⟩
          · have HF : Hid (ksB xs cl = true) := Lib.hid (by rw [HT.out, ← HPQ.out]; simp; omega)
            have e0 : ((q : Int) == 0) = false := by simp; omega
            have C3 := Lib.hid (fun w => l2Reduce_any p q w (by omega) (by omega) (by omega))
            have HXV := Lib.hid (show X = ((p / Nat.gcd p q : Nat) : Int) by rw [HX.out, ksN, if_pos HF.out, ← HPQ.out])
            have HYV := Lib.hid (show Y = ((q / Nat.gcd p q : Nat) : Int) by rw [HY.out, ksD, if_pos HF.out, ← HPQ.out])
            have HQV := Lib.hid (show Q = true by rw [HQ.out, HF.out])
            clear hq
            go_wp2_with fail
            refine (C3.out _).mono ?_
            rintro e w3 ⟨rfl, b3⟩
            rw [← HXV.out, ← HYV.out]
            go_wp2
            refine bodyPost_ret (v := .tuple #[.int .i64 X, .int .i64 Y, .bool true]) (by simp [results, Tryd.results13, go_sem]) rfl ?_
            exact ⟨by rw [HQV.out], hb.trans (b3.mono hb.size)⟩

set_option maxRecDepth 20000 in
set_option maxHeartbeats 4000000 in
theorem implKeepShare_any (A : Option Addr) (n c : Nat) (xs : List AR) (cl : ByteArray) (w : World) (hn : xs.length = n) (hA : RdA w A xs) (h20 : n ≤ 1048576) (hw : ∀ x ∈ xs, smA x) (hcap : n ≤ c ∧ c ≤ maxLen) (hcl : (cl.size : Int) ≤ 1048576) :
    Calls Tryd.prog 12 #[.slice A n c, .string cl] w (Ret (.tuple #[.int .i64 (ksN xs cl), .int .i64 (ksD xs cl), .bool (ksB xs cl)]) w) := by
  have C0 := Lib.hid (fun w h => areApprovals_any A n c xs w hn h (by omega) hw hcap)
  have C1 := Lib.hid (fun w => isWord_any cl w (by omega))
  have HA := Lib.hid hA
  have HW := Lib.hid hw
  have HN := Lib.hid hn
  obtain ⟨X, hX⟩ : ∃ X, X = ksN xs cl := ⟨_, rfl⟩
  obtain ⟨Y, hY⟩ : ∃ Y, Y = ksD xs cl := ⟨_, rfl⟩
  obtain ⟨Q, hQ⟩ : ∃ Q, Q = ksB xs cl := ⟨_, rfl⟩
  rw [← hX, ← hY, ← hQ]
  have HX := Lib.hid hX
  have HY := Lib.hid hY
  have HQ := Lib.hid hQ
  clear hX hY hQ hn hA hw hcap
  cases h0 : goodA xs with
  | false =>
    have HF : Hid (ksB xs cl = false) := Lib.hid (by simp only [ksB, h0, Bool.false_and])
    rw [h0] at C0
    clear h0
    go_enter Tryd.func12, Tryd.ntmps12
    go_wp2_with fail
    refine (C0.out _ HA.out).mono ?_
    rintro e w1 ⟨rfl, b1⟩
    go_wp2
    refine bodyPost_ret (v := .tuple #[.int .i64 0, .int .i64 0, .bool false]) (by simp [results, Tryd.results12, go_sem]) rfl ?_
    exact ⟨by rw [HX.out, HY.out, HQ.out, ksN, ksD, if_neg (by rw [HF.out]; simp), if_neg (by rw [HF.out]; simp), HF.out], b1⟩
  | true =>
    rw [h0] at C0
    cases h1 : wordB cl with
    | false =>
      have HF : Hid (ksB xs cl = false) := Lib.hid (by simp only [ksB, h0, h1, Bool.true_and, Bool.false_and])
      rw [h1] at C1
      clear h0 h1
      go_enter Tryd.func12, Tryd.ntmps12
      go_wp2_with fail
      refine (C0.out _ HA.out).mono ?_
      rintro e w1 ⟨rfl, b1⟩
      go_wp2_with fail
      refine (C1.out _).mono ?_
      rintro e w2 ⟨rfl, rfl⟩
      go_wp2
      refine bodyPost_ret (v := .tuple #[.int .i64 0, .int .i64 0, .bool false]) (by simp [results, Tryd.results12, go_sem]) rfl ?_
      exact ⟨by rw [HX.out, HY.out, HQ.out, ksN, ksD, if_neg (by rw [HF.out]; simp), if_neg (by rw [HF.out]; simp), HF.out], b1⟩
    | true =>
      rw [h1] at C1
      have HT : Hid (ksB xs cl = decide (0 < (ksP xs cl xs.length).2)) := Lib.hid (by simp only [ksB, h0, h1, Bool.true_and])
      have HG := Lib.hid h0
      have hn12 : n ≤ 12 := by have := (goodA_yes h0).2; have := HN.out; omega
      clear h0 h1
      go_enter Tryd.func12, Tryd.ntmps12
      go_wp2_with fail
      refine (C0.out _ HA.out).mono ?_
      rintro e w1 ⟨rfl, b1⟩
      go_wp2_with fail
      refine (C1.out _).mono ?_
      rintro e w2 ⟨rfl, rfl⟩
      go_wp2_with fail
      go_loopw [7, 8, 23] (fun p q i wr => ∃ k : Nat, k ≤ n ∧ i = .int .i64 k ∧ p = .int .i64 ((ksP xs cl k).1 : Nat) ∧ q = .int .i64 ((ksP xs cl k).2 : Nat) ∧ Below w.heap.size w wr) (fun _ _ i _ => n - (intOf i).toNat)
      case atStart => exact ⟨0, Nat.zero_le _, rfl, rfl, rfl, b1⟩
      case round =>
        obtain ⟨k, hk, rfl, rfl, rfl, hb⟩ := hrel
        obtain ⟨pb, qb⟩ := ksP_bd (cl := cl) HW.out k
        have HST := fun x (h : xs[k]? = some x) => ksP_step (cl := cl) h
        obtain ⟨⟨p, q⟩, hpq⟩ : ∃ u, u = ksP xs cl k := ⟨_, rfl⟩
        rw [← hpq] at pb qb HST ⊢
        simp only at pb qb
        have pb1 : p ≤ 1048576 * 12 := by omega
        have qb1 : q ≤ 1048576 * 12 := by omega
        have HPQ := Lib.hid hpq
        have HS0 := Lib.hid HST
        clear hpq HST pb qb
        by_cases hlt : k < n
        · obtain ⟨x, hxk⟩ : ∃ x, xs[k]? = some x := ⟨xs[k]'(by have := HN.out; omega), List.getElem?_eq_getElem _⟩
          obtain ⟨g, o, B, cb, D, cd, rfl, hrow⟩ := (HA.out.below hb).at hxk
          have HST := Lib.hid (HS0.out x hxk)
          obtain ⟨-, hsx, hsk⟩ := HW.out x (List.mem_of_getElem? hxk)
          have hbk := one_back (goodA_ones HG.out x (List.mem_of_getElem? hxk))
          obtain ⟨hg, -, c0, c1, c2, c3, c4, c5, -, -, -, -, -, -⟩ := hrow
          have HBA := Lib.hid (hb.alloc hb.size (.cells #[.int .i64 x.id, .string x.client, .int .i64 x.sent, .slice B x.items.length cb, .slice D x.kept.length cd, .int .i64 x.back] 34))
          clear hxk
          cases ec : (x.client.toList == cl.toList) with
          | false =>
            have HS := Lib.hid (show ksP xs cl (k + 1) = (p, q) by rw [HST.out, ksStep, if_neg (fun h => by rw [ec] at h; exact absurd h.1 (by simp))])
            go_wp2
            go_roundw
            case rel => exact ⟨k + 1, by omega, by go_num, by rw [HS.out], by rw [HS.out], HBA.out⟩
            case measure => simp [intOf]; omega
          | true =>
            by_cases q2 : x.back = -1
            · have f2 : (x.back == -1) = true := by simp [q2]
              have f3 : (x.back != -1) = false := by simp [q2]
              have f4 : decide (0 ≤ x.back) = false := by simp [q2]
              have HS := Lib.hid (show ksP xs cl (k + 1) = (p, q) by rw [HST.out, ksStep, if_neg (fun h => h.2 q2)])
              clear q2 hbk
              go_wp2
              go_roundw
              case rel => exact ⟨k + 1, by omega, by go_num, by rw [HS.out], by rw [HS.out], HBA.out⟩
              case measure => simp [intOf]; omega
            · have f2 : (x.back == -1) = false := by simp [q2]
              have f3 : (x.back != -1) = true := by simp [q2]
              have f4 : decide (0 ≤ x.back) = true := by simp; omega
              have HS := Lib.hid (show ksP xs cl (k + 1) = (p + x.kept.length, q + x.items.length) by rw [HST.out, ksStep, if_pos ⟨ec, q2⟩])
              clear q2 hbk
              go_wp2
              go_roundw
              case rel => exact ⟨k + 1, by omega, by go_num, by rw [HS.out]; go_num, by rw [HS.out]; go_num, HBA.out⟩
              case measure => simp [intOf]; omega
        · have hkn : k = xs.length := by have := HN.out; omega
          rw [hkn] at HPQ
          have hdk : decide (k < n) = false := by simpa using hlt
          clear hkn HS0
          by_cases hq : q = 0
          · have HF : Hid (ksB xs cl = false) := Lib.hid (by rw [HT.out, ← HPQ.out]; simp [hq])
            have e0 : ((q : Int) == 0) = true := by simp [hq]
            clear hq
            go_wp2
            refine bodyPost_ret (v := .tuple #[.int .i64 0, .int .i64 0, .bool false]) (by simp [results, Tryd.results12, go_sem]) rfl ?_
            exact ⟨by rw [HX.out, HY.out, HQ.out, ksN, ksD, if_neg (by rw [HF.out]; simp), if_neg (by rw [HF.out]; simp), HF.out], hb⟩
          · have HF : Hid (ksB xs cl = true) := Lib.hid (by rw [HT.out, ← HPQ.out]; simp; omega)
            have e0 : ((q : Int) == 0) = false := by simp; omega
            have C3 := Lib.hid (fun w => fraction_any p q w (by omega) (by omega) (by omega))
            have HXV := Lib.hid (show X = ((p / Nat.gcd p q : Nat) : Int) by rw [HX.out, ksN, if_pos HF.out, ← HPQ.out])
            have HYV := Lib.hid (show Y = ((q / Nat.gcd p q : Nat) : Int) by rw [HY.out, ksD, if_pos HF.out, ← HPQ.out])
            have HQV := Lib.hid (show Q = true by rw [HQ.out, HF.out])
            clear hq
            go_wp2_with fail
            refine (C3.out _).mono ?_
            rintro e w3 ⟨rfl, b3⟩
            rw [← HXV.out, ← HYV.out]
            go_wp2
            refine bodyPost_ret (v := .tuple #[.int .i64 X, .int .i64 Y, .bool true]) (by simp [results, Tryd.results12, go_sem]) rfl ?_
            exact ⟨by rw [HQV.out], hb.trans (b3.mono hb.size)⟩
end Go.Proofs.YtehohkdipfphmaaDoor
