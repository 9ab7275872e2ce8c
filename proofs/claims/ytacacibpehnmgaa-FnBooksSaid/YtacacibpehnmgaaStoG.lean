/- Stock book: StampAt: the program's function and the reference's return one value. -/
import Derived.Test.YtacacibpehnmgaaStoF
namespace Go.Proofs.Ytacacibpehnmgaa
set_option linter.unusedVariables false
set_option linter.unusedSimpArgs false
open Go.RowKit

theorem st_ways (xs : List BR) (id a : Int) : (findV xs id = -1 ∧ stB xs id a = false) ∨ (0 ≤ findV xs id ∧ inR a 0 199 = false ∧ stB xs id a = false) ∨
    (0 ≤ findV xs id ∧ inR a 0 199 = true ∧ stB xs id a = true ∧ stampV xs id a = coverV (atB xs (findV xs id)).ws a) := by
  unfold stampV
  rcases findV_cases xs id with h | ⟨-, k, x, h, -, hk, hx, -, hrow⟩
  · exact .inl ⟨h, by simp [stB, h]⟩
  · right
    cases h2 : inR a 0 199 with
    | false => exact .inl ⟨by omega, rfl, by simp [stB, h2]⟩
    | true => right; rw [h]; exact ⟨by omega, rfl, by simp [stB, h, h2], by rw [if_pos (by simp [stB, h, h2])]⟩

theorem covB_at {ws : List Int} {a : Int} {k : Nat} {x S : Int} (hx : ws[k]? = some x) (hS : S = (ws.take k).sum) : covB ws a k = inR a (S + 2 * (k : Int)) (S + 2 * (k : Int) + x - 1) := by
  simp [covB, List.getD, hx, hS]

set_option maxRecDepth 20000 in
set_option maxHeartbeats 2000000 in
theorem specStampAt_any (A : Option Addr) (n c : Nat) (xs : List BR) (id a : Int) (w : World) (hn : xs.length = n) (hA : RdB w A xs) (h20 : n ≤ 1048576) (hw : ∀ x ∈ xs, x.ws.length ≤ 1048576) :
    Calls Try.prog 19 #[.slice A n c, .int .i64 id, .int .i64 a] w (Ret (.tuple #[.int .i64 (stampV xs id a), .bool (stB xs id a)]) w) := by
  have C := Lib.hid (fun w h => l27Find_any A n c xs id w hn h (by omega) (hw1 hw))
  have C1 := Lib.hid (fun w => l1In_any a 0 199 w)
  have HA := Lib.hid hA
  rcases st_ways xs id a with ⟨h, hB⟩ | ⟨h, ha, hB⟩ | ⟨h, ha, hB, hV⟩
  · rw [h] at C
    rw [stampV, hB]
    clear h hn hw hA hB
    go_enter Try.func19, Try.ntmps19
    go_wp2_with fail
    refine (C.out _ HA.out).mono ?_
    rintro e w1 ⟨rfl, b1⟩
    go_wp2
    go_ret2
    exact ⟨rfl, b1⟩
  · obtain ⟨q, hq⟩ : ∃ q, q = findV xs id := ⟨_, rfl⟩
    rw [← hq] at C h
    rw [ha] at C1
    rw [stampV, hB]
    clear hn hw hA hB hq ha
    go_enter Try.func19, Try.ntmps19
    go_wp2_with fail
    refine (C.out _ HA.out).mono ?_
    rintro e w1 ⟨rfl, b1⟩
    go_wp2_with fail
    refine (C1.out _).mono ?_
    rintro e w2 ⟨rfl, rfl⟩
    go_wp2
    go_ret2
    exact ⟨rfl, b1⟩
  · rcases findV_cases xs id with h' | ⟨-, k, x, h', -, hk, hx, -, hrow⟩
    · omega
    rw [h', atB_at hx] at hV
    rw [h'] at C
    rw [ha] at C1
    rw [hB]
    obtain ⟨r1, r2, r3⟩ := rowB_yes hrow
    have HX := Lib.hid hx
    have R1 := Lib.hid r1
    have HV := Lib.hid hV
    have hkn : k < n := by omega
    clear h h' hn hw hA hB ha hx hV hrow r1 r3 hk
    go_enter Try.func19, Try.ntmps19
    go_wp2_with fail
    refine (C.out _ HA.out).mono ?_
    rintro e w1 ⟨rfl, b1⟩
    go_wp2_with fail
    refine (C1.out _).mono ?_
    rintro e w2 ⟨rfl, rfl⟩
    obtain ⟨g, o, B, cc, rfl, hg, c0, c1, -, -, hrd⟩ := (HA.out.below b1).at HX.out
    have HRD := Lib.hid hrd
    clear hrd
    go_wp2_with fail
    refine (l27Starts_any B x.ws.length cc x.ws _ rfl HRD.out (by omega) R1.out).mono ?_
    rintro e w3 ⟨v, rfl, o3, b3⟩
    obtain ⟨A3, c3, rfl⟩ := own_form o3
    have HS := Lib.hid (Rd.of_own o3)
    have HRD3 := Lib.hid (HRD.out.below b3)
    have d1 : w3.cell? ⟨g, o + k * 2 + 1, none⟩ = some (.slice B x.ws.length cc) := (b3.cell (p := ⟨g, _, none⟩) hg).trans c1
    have hg3 : g < w3.heap.size := by have := b3.size; omega
    have hb3 := b1.trans (b3.mono b1.size)
    have D1 := Lib.hid d1
    clear c0 c1 o3 d1
    obtain ⟨N, hN⟩ : ∃ N, N = x.ws.length := ⟨_, rfl⟩
    rw [← hN] at D1 r2 ⊢
    have HN := Lib.hid hN
    clear hN
    go_wp2_with fail
    go_loopw [10, 6, 7] (fun i _ _ wr => ∃ j : Nat, j ≤ N ∧ i = .int .i64 j ∧ (∀ q, q < j → covB x.ws a q = false) ∧ Below w3.heap.size w3 wr) (fun i _ _ _ => N - (intOf i).toNat)
    case atStart => exact ⟨0, Nat.zero_le _, rfl, fun q hq => by omega, Below.refl _ _⟩
    case round =>
      obtain ⟨j, hj, rfl, hrel, hb⟩ := hrel
      have HR := Lib.hid hrel
      clear hrel
      by_cases hlt : j < N
      · obtain ⟨y, hyj⟩ : ∃ y, x.ws[j]? = some y := ⟨x.ws[j]'(by have := HN.out; omega), List.getElem?_eq_getElem _⟩
        have hy := wdB_bd.1 (R1.out y (List.mem_of_getElem? hyj))
        have hS := sum_take_bd R1.out (by have := HN.out; omega) j (by have := HN.out; omega)
        obtain ⟨S, hSS⟩ : ∃ S, S = (x.ws.take j).sum := ⟨_, rfl⟩
        have HC := Lib.hid (covB_at (a := a) hyj hSS)
        have hst := startsV_get (ws := x.ws) (k := j) (by have := HN.out; omega)
        rw [← hSS] at hS hst
        obtain ⟨gs, os, hA3, hgs, e0⟩ := (HS.out.below hb).at1 hst
        obtain ⟨gb, ob, hB3, hgb, f0⟩ := (HRD3.out.below hb).at1 hyj
        have d1 := (hb.cell (p := ⟨g, o + k * 2 + 1, none⟩) hg3).trans D1.out
        have hgw : g < wr.heap.size := by have := hb.size; omega
        subst hA3; subst hB3
        clear hSS hst hyj
        have hs1 : IntKind.i64.wrap (S + 2 * (j : Int) + y) = S + 2 * (j : Int) + y := IntWalk.i64_in _ (by omega)
        have hs2 : IntKind.i64.wrap (S + 2 * (j : Int) + y - 1) = S + 2 * (j : Int) + y - 1 := IntWalk.i64_in _ (by omega)
        have C2 := Lib.hid (fun w => l1In_any a (S + 2 * (j : Int)) (S + 2 * (j : Int) + y - 1) w)
        rw [← HC.out] at C2
        cases hcv : covB x.ws a j with
        | true =>
          rw [hcv] at C2
          have HCV := Lib.hid (cover_hit HR.out (by have := HN.out; omega) hcv)
          clear hcv
          go_wp2_with fail
          refine wp_region_lat wr.heap.size (by kernel_rfl) (by kernel_rfl) ?_
          have LC := fun (u : Lat wr.heap.size wr) => u.cell
          repeat (go_big_quiet_step ((go_at_call 34; exact lat_same _ (C2.out _))))
          refine wpQuiet_nil ?_
          intro w4 hw4
          clear LC hs1 hs2
          go_wp2
          go_ret2
          exact ⟨ret_ib (by rw [HV.out, HCV.out]) rfl, hb3.trans ((hb.trans (hw4.mono hb.size)).mono hb3.size)⟩
        | false =>
          rw [hcv] at C2
          have HCV := Lib.hid hcv
          clear hcv
          go_wp2_with fail
          refine wp_region_lat wr.heap.size (by kernel_rfl) (by kernel_rfl) ?_
          have LC := fun (u : Lat wr.heap.size wr) => u.cell
          repeat (go_big_quiet_step ((go_at_call 34; exact lat_same _ (C2.out _))))
          refine wpQuiet_nil ?_
          intro w4 hw4
          clear LC hs1 hs2
          go_wp2
          go_roundw
          case rel =>
            refine ⟨j + 1, by omega, by go_num, fun q hq => ?_, hb.trans (hw4.mono hb.size)⟩
            rcases Nat.lt_or_ge q j with h | h
            · exact HR.out q h
            · have : q = j := by omega
              subst this; exact HCV.out
          case measure => simp [intOf]; omega
      · have HCV := Lib.hid (cover_miss (ws := x.ws) (a := a) fun q hq => HR.out q (by have := HN.out; omega))
        go_wp2
        go_ret2
        exact ⟨ret_ib (by rw [HV.out, HCV.out]) rfl, hb3.trans (hb.mono hb3.size)⟩

set_option maxRecDepth 20000 in
set_option maxHeartbeats 2000000 in
theorem implStampAt_any (A : Option Addr) (n c : Nat) (xs : List BR) (id a : Int) (w : World) (hn : xs.length = n) (hA : RdB w A xs) (h20 : n ≤ 1048576) (hw : ∀ x ∈ xs, x.ws.length ≤ 1048576) :
    Calls Try.prog 15 #[.slice A n c, .int .i64 id, .int .i64 a] w (Ret (.tuple #[.int .i64 (stampV xs id a), .bool (stB xs id a)]) w) := by
  have C0 := Lib.hid (fun w h => stripAt_any A n c xs id w hn h (by omega))
  have C := Lib.hid (fun w h => isStockBook_any A n c xs w hn h (by omega) (hw1 hw))
  have C1 := Lib.hid (fun w => inRange_any a 0 199 w)
  have HA := Lib.hid hA
  rcases find_ways xs id with ⟨hv, h⟩ | ⟨hv, hi, h⟩ | ⟨hv, k, x, h, hi, hk, hx, -, hrow⟩
  · rw [hv] at C
    have hB : stB xs id a = false := by simp [stB, h]
    rw [stampV, hB]
    obtain ⟨q, hq⟩ : ∃ q, q = idxV (hasId id) xs := ⟨_, rfl⟩
    rw [← hq] at C0
    clear hv h hn hw hA hq hB
    go_enter Try.func15, Try.ntmps15
    go_wp2_with fail
    refine (C0.out _ HA.out).mono ?_
    rintro e w1 ⟨rfl, b1⟩
    go_wp2_with fail
    refine (C.out _ (HA.out.below b1)).mono ?_
    rintro e w2 ⟨rfl, b2⟩
    go_wp2
    go_ret2
    exact ⟨rfl, b1.trans (b2.mono b1.size)⟩
  · rw [hv] at C
    rw [hi] at C0
    have hB : stB xs id a = false := by simp [stB, h]
    rw [stampV, hB]
    clear hv h hn hw hA hi hB
    go_enter Try.func15, Try.ntmps15
    go_wp2_with fail
    refine (C0.out _ HA.out).mono ?_
    rintro e w1 ⟨rfl, b1⟩
    go_wp2_with fail
    refine (C.out _ (HA.out.below b1)).mono ?_
    rintro e w2 ⟨rfl, b2⟩
    go_wp2
    go_ret2
    exact ⟨rfl, b1.trans (b2.mono b1.size)⟩
  · rw [hv] at C
    rw [hi] at C0
    cases ha : inR a 0 199 with
    | false =>
      rw [ha] at C1
      have hB : stB xs id a = false := by simp [stB, ha]
      rw [stampV, hB]
      clear hv h hn hw hA hi hB ha hx hk hrow
      go_enter Try.func15, Try.ntmps15
      go_wp2_with fail
      refine (C0.out _ HA.out).mono ?_
      rintro e w1 ⟨rfl, b1⟩
      go_wp2_with fail
      refine (C.out _ (HA.out.below b1)).mono ?_
      rintro e w2 ⟨rfl, b2⟩
      go_wp2_with fail
      refine (C1.out _).mono ?_
      rintro e w3 ⟨rfl, rfl⟩
      go_wp2
      go_ret2
      exact ⟨rfl, b1.trans (b2.mono b1.size)⟩
    | true =>
      rw [ha] at C1
      have hB : stB xs id a = true := by simp [stB, ha, h]
      have HV := Lib.hid (show stampV xs id a = coverV x.ws a by rw [stampV, if_pos hB, h, atB_at hx])
      rw [hB]
      obtain ⟨r1, r2, r3⟩ := rowB_yes hrow
      have HX := Lib.hid hx
      have R1 := Lib.hid r1
      have hkn : k < n := by omega
      clear hv h hn hw hA hi hB ha hx hk hrow r1 r3
      go_enter Try.func15, Try.ntmps15
      go_wp2_with fail
      refine (C0.out _ HA.out).mono ?_
      rintro e w1 ⟨rfl, b1⟩
      go_wp2_with fail
      refine (C.out _ (HA.out.below b1)).mono ?_
      rintro e w2 ⟨rfl, b2⟩
      have hb2 := b1.trans (b2.mono b1.size)
      go_wp2_with fail
      refine (C1.out _).mono ?_
      rintro e w3 ⟨rfl, rfl⟩
      obtain ⟨g, o, B, cc, rfl, hg, c0, c1, -, -, hrd⟩ := (HA.out.below hb2).at HX.out
      have HRD := Lib.hid hrd
      clear hrd
      go_wp2_with fail
      refine (startsOf_any B x.ws.length cc x.ws _ rfl HRD.out (by omega) R1.out).mono ?_
      rintro e w3 ⟨v, rfl, o3, b3⟩
      obtain ⟨A3, c3, rfl⟩ := own_form o3
      have HS := Lib.hid (Rd.of_own o3)
      have HRD3 := Lib.hid (HRD.out.below b3)
      have d1 : w3.cell? ⟨g, o + k * 2 + 1, none⟩ = some (.slice B x.ws.length cc) := (b3.cell (p := ⟨g, _, none⟩) hg).trans c1
      have hg3 : g < w3.heap.size := by have := b3.size; omega
      have hb3 := hb2.trans (b3.mono hb2.size)
      have D1 := Lib.hid d1
      clear c0 c1 o3 d1
      obtain ⟨N, hN⟩ : ∃ N, N = x.ws.length := ⟨_, rfl⟩
      rw [← hN] at D1 r2 ⊢
      have HN := Lib.hid hN
      clear hN
      go_wp2_with fail
      go_loopw [33, 6, 7, 9, 10] (fun i _ _ _ _ wr => ∃ j : Nat, j ≤ N ∧ i = .int .i64 j ∧ (∀ q, q < j → covB x.ws a q = false) ∧ Below w3.heap.size w3 wr) (fun i _ _ _ _ _ => N - (intOf i).toNat)
      case atStart => exact ⟨0, Nat.zero_le _, rfl, fun q hq => by omega, Below.refl _ _⟩
      case round =>
        obtain ⟨j, hj, rfl, hrel, hb⟩ := hrel
        have HR := Lib.hid hrel
        clear hrel
        by_cases hlt : j < N
        · obtain ⟨y, hyj⟩ : ∃ y, x.ws[j]? = some y := ⟨x.ws[j]'(by have := HN.out; omega), List.getElem?_eq_getElem _⟩
          have hy := wdB_bd.1 (R1.out y (List.mem_of_getElem? hyj))
          have hS := sum_take_bd R1.out (by have := HN.out; omega) j (by have := HN.out; omega)
          obtain ⟨S, hSS⟩ : ∃ S, S = (x.ws.take j).sum := ⟨_, rfl⟩
          have HC := Lib.hid (covB_at (a := a) hyj hSS)
          have hst := startsV_get (ws := x.ws) (k := j) (by have := HN.out; omega)
          rw [← hSS] at hS hst
          obtain ⟨gs, os, hA3, hgs, e0⟩ := (HS.out.below hb).at1 hst
          obtain ⟨gb, ob, hB3, hgb, f0⟩ := (HRD3.out.below hb).at1 hyj
          have d1 := (hb.cell (p := ⟨g, o + k * 2 + 1, none⟩) hg3).trans D1.out
          have hgw : g < wr.heap.size := by have := hb.size; omega
          subst hA3; subst hB3
          clear hSS hst hyj
          have C2 := Lib.hid (fun w => inRange_any a (S + 2 * (j : Int)) (S + 2 * (j : Int) + y - 1) w)
          rw [← HC.out] at C2
          cases hcv : covB x.ws a j with
          | true =>
            rw [hcv] at C2
            have HCV := Lib.hid (cover_hit HR.out (by have := HN.out; omega) hcv)
            clear hcv
            go_wp2_with fail
            refine (C2.out _).mono ?_
            rintro e w4 ⟨rfl, rfl⟩
            go_wp2
            go_ret2
            exact ⟨ret_ib (by rw [HV.out, HCV.out]) rfl, hb3.trans (hb.mono hb3.size)⟩
          | false =>
            rw [hcv] at C2
            have HCV := Lib.hid hcv
            clear hcv
            go_wp2_with fail
            refine (C2.out _).mono ?_
            rintro e w4 ⟨rfl, rfl⟩
            go_wp2
            go_roundw
            case rel =>
              refine ⟨j + 1, by omega, by go_num, fun q hq => ?_, hb⟩
              rcases Nat.lt_or_ge q j with h | h
              · exact HR.out q h
              · have : q = j := by omega
                subst this; exact HCV.out
            case measure => simp [intOf]; omega
        · have HCV := Lib.hid (cover_miss (ws := x.ws) (a := a) fun q hq => HR.out q (by have := HN.out; omega))
          go_wp2
          go_ret2
          exact ⟨ret_ib (by rw [HV.out, HCV.out]) rfl, hb3.trans (hb.mono hb3.size)⟩
end Go.Proofs.Ytacacibpehnmgaa
