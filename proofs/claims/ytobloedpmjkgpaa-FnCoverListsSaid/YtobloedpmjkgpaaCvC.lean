/- FaultCounts of the reference. -/
import Derived.Test.YtobloedpmjkgpaaCvY
import Derived.Test.YtobloedpmjkgpaaCvB
import Derived.Test.YtobloedpmjkgpaaCur
namespace Go.Proofs.Ytobloedpmjkgpaa
set_option linter.unusedVariables false
set_option linter.unusedSimpArgs false
open Go.RowKit

/-- An array of six counts. -/
def arr6 (L : List Int) : Value := .agg (cells1 L).toArray
theorem list6 {L : List Int} (h : L.length = 6) : ∃ a b c d e f, L = [a, b, c, d, e, f] := by
  match L, h with
  | [a, b, c, d, e, f], _ => exact ⟨a, b, c, d, e, f, rfl⟩
theorem below_set {w0 w : World} {B G : Nat} (hb : Below B w0 w) (hB : B ≤ G) (hs : B ≤ w.heap.size) (i : Nat) (v : Value) : Below B w0 (w.setCell ⟨G, i, none⟩ v) :=
  hb.trans ((Below.refl B w).grown (grown_cell w G i v) hs (fun k hk => by injection hk with hk; omega))
theorem World.size_alloc_succ (w : World) (o : Obj) : (w.alloc o).heap.size = w.heap.size + 1 := by simp
theorem cells1_set (L : List Int) (i : Nat) (z : Int) : (cells1 L).set i (.int .i64 z) = cells1 (L.set i z) := by simp [cells1, List.map_set]
set_option maxHeartbeats 16000000 in
set_option maxRecDepth 20000 in
theorem specFaultCounts_any (A : Option Addr) (n c : Nat) (rs : List R5) (B : Option Addr) (n2 c2 : Nat) (ms : List R4) (D : Option Addr) (n3 c3 : Nat) (xs : List R9) (w : World) (hn : rs.length = n) (hA : Rd w A (cells5 rs)) (hn2 : ms.length = n2) (hB : Rd w B (cells4 ms)) (hn3 : xs.length = n3) (hD : Rd w D (cells9 xs)) (h1 : n ≤ 1048576) (h2 : n2 ≤ 1048576) (h3 : n3 ≤ 1048576) (hsm : ∀ x ∈ ms, sm4 x) :
    Calls Try.prog 12 #[.slice A n c, .slice B n2 c2, .slice D n3 c3] w (Ret (.tuple #[arr6 (fcV rs ms xs), .bool (tcB rs ms xs)]) w) := by
  have C1 := Lib.hid (fun w h => l8Good_any A n c rs w hn h h1)
  have C2 := Lib.hid (fun w h => l9Good_any B n2 c2 ms w hn2 h h2 hsm)
  have C3 := Lib.hid (fun w h => l10Good_any D n3 c3 xs w hn3 h h3)
  have HA := Lib.hid hA
  have HB := Lib.hid hB
  have HD := Lib.hid hD
  have HN := Lib.hid hn3
  have htc : tcB rs ms xs = (rtL rs && (mlL ms && cvL xs)) := rfl
  have CF := Lib.hid (fun w x h h2 hr hg hx => l10Fault_any A n c rs B n2 c2 ms x w hn h hn2 h2 hr hg hx)
  have HW0 : Hid (Below w.heap.size w ((w.alloc (.cells #[.int .i64 0, .int .i64 0, .int .i64 0, .int .i64 0, .int .i64 0, .int .i64 0] 34)).alloc (.cells #[.int .i64 0, .int .i64 0, .int .i64 0, .int .i64 0, .int .i64 0, .int .i64 0] 34))) := Lib.hid (((Below.refl _ _).alloc (Nat.le_refl _) _).alloc (by simp) _)
  have KR0 : Hid (Blk ((w.alloc (.cells #[.int .i64 0, .int .i64 0, .int .i64 0, .int .i64 0, .int .i64 0, .int .i64 0] 34)).alloc (.cells #[.int .i64 0, .int .i64 0, .int .i64 0, .int .i64 0, .int .i64 0, .int .i64 0] 34)) w.heap.size (cells1 [0, 0, 0, 0, 0, 0])) := Lib.hid ((Blk.new w (cells1 [0, 0, 0, 0, 0, 0]) 34).alloc _)
  have KO0 : Hid (Blk ((w.alloc (.cells #[.int .i64 0, .int .i64 0, .int .i64 0, .int .i64 0, .int .i64 0, .int .i64 0] 34)).alloc (.cells #[.int .i64 0, .int .i64 0, .int .i64 0, .int .i64 0, .int .i64 0, .int .i64 0] 34)) (w.heap.size + 1) (cells1 [0, 0, 0, 0, 0, 0])) := Lib.hid (by have h := Blk.new (w.alloc (.cells #[.int .i64 0, .int .i64 0, .int .i64 0, .int .i64 0, .int .i64 0, .int .i64 0] 34)) (cells1 [0, 0, 0, 0, 0, 0]) 34; rw [World.size_alloc_succ] at h; exact h)
  clear hA hB hD hn hn2 hn3 hsm
  cases hb1 : rtL rs with
  | false =>
    have e0 : tcB rs ms xs = false := by rw [htc, hb1]; simp
    rw [hb1] at C1
    have e1 : fcV rs ms xs = [0, 0, 0, 0, 0, 0] := by rw [fcV, if_neg (by rw [e0]; simp)]
    rw [e0, e1]
    clear e0 e1 htc
    go_enter Try.func12, Try.ntmps12
    go_wp2_with fail
    refine (C1.out _ ((HA.out.alloc _).alloc _)).mono ?_
    rintro e w1 ⟨rfl, b1⟩
    have HW1 := Lib.hid (HW0.out.trans (b1.mono HW0.out.size))
    have HA' := Lib.hid (((HA.out.alloc _).alloc _).below b1)
    have HB' := Lib.hid (((HB.out.alloc _).alloc _).below b1)
    have HD' := Lib.hid (((HD.out.alloc _).alloc _).below b1)
    have KR1 := Lib.hid (KR0.out.below b1 KR0.out.lt)
    have KO1 := Lib.hid (KO0.out.below b1 KO0.out.lt)
    clear b1
    have hsw := HW1.out.size
    have rr0 := KR1.out.cell 0 _ rfl
    have rf0 := KR1.out.fr 0 (by simp [cells1])
    have rr1 := KR1.out.cell 1 _ rfl
    have rf1 := KR1.out.fr 1 (by simp [cells1])
    have rr2 := KR1.out.cell 2 _ rfl
    have rf2 := KR1.out.fr 2 (by simp [cells1])
    have rr3 := KR1.out.cell 3 _ rfl
    have rf3 := KR1.out.fr 3 (by simp [cells1])
    have rr4 := KR1.out.cell 4 _ rfl
    have rf4 := KR1.out.fr 4 (by simp [cells1])
    have rr5 := KR1.out.cell 5 _ rfl
    have rf5 := KR1.out.fr 5 (by simp [cells1])
    have oo0 := KO1.out.cell 0 _ rfl
    have oo1 := KO1.out.cell 1 _ rfl
    have oo2 := KO1.out.cell 2 _ rfl
    have oo3 := KO1.out.cell 3 _ rfl
    have oo4 := KO1.out.cell 4 _ rfl
    have oo5 := KO1.out.cell 5 _ rfl
    go_wp2
    exact bodyPost_ret (v := .tuple #[.agg #[.int .i64 0, .int .i64 0, .int .i64 0, .int .i64 0, .int .i64 0, .int .i64 0], .bool false]) (by simp [results, Try.results12, go_sem, rr0, rr1, rr2, rr3, rr4, rr5]) rfl ⟨rfl, (below_set (below_set (below_set (below_set (below_set (below_set HW1.out (Nat.le_refl _) (by simpa using hsw) 0 _) (Nat.le_refl _) (by simpa using hsw) 1 _) (Nat.le_refl _) (by simpa using hsw) 2 _) (Nat.le_refl _) (by simpa using hsw) 3 _) (Nat.le_refl _) (by simpa using hsw) 4 _) (Nat.le_refl _) (by simpa using hsw) 5 _)⟩
  | true =>
    rw [hb1] at C1
    have HT1 := Lib.hid hb1
    cases hb2 : mlL ms with
    | false =>
      have e0 : tcB rs ms xs = false := by rw [htc, hb1, hb2]; simp
      rw [hb2] at C2
      have e1 : fcV rs ms xs = [0, 0, 0, 0, 0, 0] := by rw [fcV, if_neg (by rw [e0]; simp)]
      rw [e0, e1]
      clear e0 e1 htc
      go_enter Try.func12, Try.ntmps12
      go_wp2_with fail
      refine (C1.out _ ((HA.out.alloc _).alloc _)).mono ?_
      rintro e w1 ⟨rfl, b1⟩
      have HW1 := Lib.hid (HW0.out.trans (b1.mono HW0.out.size))
      have HA' := Lib.hid (((HA.out.alloc _).alloc _).below b1)
      have HB' := Lib.hid (((HB.out.alloc _).alloc _).below b1)
      have HD' := Lib.hid (((HD.out.alloc _).alloc _).below b1)
      have KR1 := Lib.hid (KR0.out.below b1 KR0.out.lt)
      have KO1 := Lib.hid (KO0.out.below b1 KO0.out.lt)
      clear b1
      go_wp2_with fail
      refine (C2.out _ HB'.out).mono ?_
      rintro e w2 ⟨rfl, b2⟩
      have HW2 := Lib.hid (HW1.out.trans (b2.mono HW1.out.size))
      have HA'' := Lib.hid (HA'.out.below b2)
      have HB'' := Lib.hid (HB'.out.below b2)
      have HD'' := Lib.hid (HD'.out.below b2)
      have KR2 := Lib.hid (KR1.out.below b2 KR1.out.lt)
      have KO2 := Lib.hid (KO1.out.below b2 KO1.out.lt)
      clear b2
      have hsw := HW2.out.size
      have rr0 := KR2.out.cell 0 _ rfl
      have rf0 := KR2.out.fr 0 (by simp [cells1])
      have rr1 := KR2.out.cell 1 _ rfl
      have rf1 := KR2.out.fr 1 (by simp [cells1])
      have rr2 := KR2.out.cell 2 _ rfl
      have rf2 := KR2.out.fr 2 (by simp [cells1])
      have rr3 := KR2.out.cell 3 _ rfl
      have rf3 := KR2.out.fr 3 (by simp [cells1])
      have rr4 := KR2.out.cell 4 _ rfl
      have rf4 := KR2.out.fr 4 (by simp [cells1])
      have rr5 := KR2.out.cell 5 _ rfl
      have rf5 := KR2.out.fr 5 (by simp [cells1])
      have oo0 := KO2.out.cell 0 _ rfl
      have oo1 := KO2.out.cell 1 _ rfl
      have oo2 := KO2.out.cell 2 _ rfl
      have oo3 := KO2.out.cell 3 _ rfl
      have oo4 := KO2.out.cell 4 _ rfl
      have oo5 := KO2.out.cell 5 _ rfl
      go_wp2
      exact bodyPost_ret (v := .tuple #[.agg #[.int .i64 0, .int .i64 0, .int .i64 0, .int .i64 0, .int .i64 0, .int .i64 0], .bool false]) (by simp [results, Try.results12, go_sem, rr0, rr1, rr2, rr3, rr4, rr5]) rfl ⟨rfl, (below_set (below_set (below_set (below_set (below_set (below_set HW2.out (Nat.le_refl _) (by simpa using hsw) 0 _) (Nat.le_refl _) (by simpa using hsw) 1 _) (Nat.le_refl _) (by simpa using hsw) 2 _) (Nat.le_refl _) (by simpa using hsw) 3 _) (Nat.le_refl _) (by simpa using hsw) 4 _) (Nat.le_refl _) (by simpa using hsw) 5 _)⟩
    | true =>
      rw [hb2] at C2
      have HT2 := Lib.hid hb2
      cases hb3 : cvL xs with
      | false =>
        have e0 : tcB rs ms xs = false := by rw [htc, hb1, hb2, hb3]; simp
        rw [hb3] at C3
        have e1 : fcV rs ms xs = [0, 0, 0, 0, 0, 0] := by rw [fcV, if_neg (by rw [e0]; simp)]
        rw [e0, e1]
        clear e0 e1 htc
        go_enter Try.func12, Try.ntmps12
        go_wp2_with fail
        refine (C1.out _ ((HA.out.alloc _).alloc _)).mono ?_
        rintro e w1 ⟨rfl, b1⟩
        have HW1 := Lib.hid (HW0.out.trans (b1.mono HW0.out.size))
        have HA' := Lib.hid (((HA.out.alloc _).alloc _).below b1)
        have HB' := Lib.hid (((HB.out.alloc _).alloc _).below b1)
        have HD' := Lib.hid (((HD.out.alloc _).alloc _).below b1)
        have KR1 := Lib.hid (KR0.out.below b1 KR0.out.lt)
        have KO1 := Lib.hid (KO0.out.below b1 KO0.out.lt)
        clear b1
        go_wp2_with fail
        refine (C2.out _ HB'.out).mono ?_
        rintro e w2 ⟨rfl, b2⟩
        have HW2 := Lib.hid (HW1.out.trans (b2.mono HW1.out.size))
        have HA'' := Lib.hid (HA'.out.below b2)
        have HB'' := Lib.hid (HB'.out.below b2)
        have HD'' := Lib.hid (HD'.out.below b2)
        have KR2 := Lib.hid (KR1.out.below b2 KR1.out.lt)
        have KO2 := Lib.hid (KO1.out.below b2 KO1.out.lt)
        clear b2
        go_wp2_with fail
        refine (C3.out _ HD''.out).mono ?_
        rintro e w3 ⟨rfl, b3⟩
        have HW3 := Lib.hid (HW2.out.trans (b3.mono HW2.out.size))
        have HA''' := Lib.hid (HA''.out.below b3)
        have HB''' := Lib.hid (HB''.out.below b3)
        have HD''' := Lib.hid (HD''.out.below b3)
        have KR3 := Lib.hid (KR2.out.below b3 KR2.out.lt)
        have KO3 := Lib.hid (KO2.out.below b3 KO2.out.lt)
        clear b3
        have hsw := HW3.out.size
        have rr0 := KR3.out.cell 0 _ rfl
        have rf0 := KR3.out.fr 0 (by simp [cells1])
        have rr1 := KR3.out.cell 1 _ rfl
        have rf1 := KR3.out.fr 1 (by simp [cells1])
        have rr2 := KR3.out.cell 2 _ rfl
        have rf2 := KR3.out.fr 2 (by simp [cells1])
        have rr3 := KR3.out.cell 3 _ rfl
        have rf3 := KR3.out.fr 3 (by simp [cells1])
        have rr4 := KR3.out.cell 4 _ rfl
        have rf4 := KR3.out.fr 4 (by simp [cells1])
        have rr5 := KR3.out.cell 5 _ rfl
        have rf5 := KR3.out.fr 5 (by simp [cells1])
        have oo0 := KO3.out.cell 0 _ rfl
        have oo1 := KO3.out.cell 1 _ rfl
        have oo2 := KO3.out.cell 2 _ rfl
        have oo3 := KO3.out.cell 3 _ rfl
        have oo4 := KO3.out.cell 4 _ rfl
        have oo5 := KO3.out.cell 5 _ rfl
        go_wp2
        exact bodyPost_ret (v := .tuple #[.agg #[.int .i64 0, .int .i64 0, .int .i64 0, .int .i64 0, .int .i64 0, .int .i64 0], .bool false]) (by simp [results, Try.results12, go_sem, rr0, rr1, rr2, rr3, rr4, rr5]) rfl ⟨rfl, (below_set (below_set (below_set (below_set (below_set (below_set HW3.out (Nat.le_refl _) (by simpa using hsw) 0 _) (Nat.le_refl _) (by simpa using hsw) 1 _) (Nat.le_refl _) (by simpa using hsw) 2 _) (Nat.le_refl _) (by simpa using hsw) 3 _) (Nat.le_refl _) (by simpa using hsw) 4 _) (Nat.le_refl _) (by simpa using hsw) 5 _)⟩
      | true =>
        rw [hb3] at C3
        have HT3 := Lib.hid hb3
        have e0 : tcB rs ms xs = true := by rw [htc, hb1, hb2, hb3]; rfl
        rw [e0, fcV, if_pos e0]
        have h10 := cvL_len hb3
        clear e0 htc hb1 hb2 hb3
        go_enter Try.func12, Try.ntmps12
        go_wp2_with fail
        refine (C1.out _ ((HA.out.alloc _).alloc _)).mono ?_
        rintro e w1 ⟨rfl, b1⟩
        have HW1 := Lib.hid (HW0.out.trans (b1.mono HW0.out.size))
        have HA' := Lib.hid (((HA.out.alloc _).alloc _).below b1)
        have HB' := Lib.hid (((HB.out.alloc _).alloc _).below b1)
        have HD' := Lib.hid (((HD.out.alloc _).alloc _).below b1)
        have KR1 := Lib.hid (KR0.out.below b1 KR0.out.lt)
        have KO1 := Lib.hid (KO0.out.below b1 KO0.out.lt)
        clear b1
        go_wp2_with fail
        refine (C2.out _ HB'.out).mono ?_
        rintro e w2 ⟨rfl, b2⟩
        have HW2 := Lib.hid (HW1.out.trans (b2.mono HW1.out.size))
        have HA'' := Lib.hid (HA'.out.below b2)
        have HB'' := Lib.hid (HB'.out.below b2)
        have HD'' := Lib.hid (HD'.out.below b2)
        have KR2 := Lib.hid (KR1.out.below b2 KR1.out.lt)
        have KO2 := Lib.hid (KO1.out.below b2 KO1.out.lt)
        clear b2
        go_wp2_with fail
        refine (C3.out _ HD''.out).mono ?_
        rintro e w3 ⟨rfl, b3⟩
        have HW3 := Lib.hid (HW2.out.trans (b3.mono HW2.out.size))
        have HA''' := Lib.hid (HA''.out.below b3)
        have HB''' := Lib.hid (HB''.out.below b3)
        have HD''' := Lib.hid (HD''.out.below b3)
        have KR3 := Lib.hid (KR2.out.below b3 KR2.out.lt)
        have KO3 := Lib.hid (KO2.out.below b3 KO2.out.lt)
        clear b3
        go_wp2_with fail
        go_loopw [9, 10] (fun i _ wr => ∃ k : Nat, i = .int .i64 k ∧ k ≤ n3 ∧ Blk wr (w.heap.size + 1) (cells1 (fcP rs ms xs k)) ∧ Blk wr w.heap.size (cells1 [0, 0, 0, 0, 0, 0]) ∧ Below w.heap.size w wr) (fun i _ _ => n3 - (intOf i).toNat)
        case atStart => exact ⟨0, rfl, by omega, by rw [fcP_zero]; exact KO3.out, KR3.out, HW3.out⟩
        case round =>
          obtain ⟨k, rfl, hk, ko, kr, hb⟩ := hrel
          have KO := Lib.hid ko
          have KR := Lib.hid kr
          have HBK := Lib.hid hb
          have hsw := hb.size
          clear ko kr hb
          by_cases hlt : k < n3
          · have hlt' : (k : Int) < (n3 : Int) := by omega
            have hk0 : (0 : Int) ≤ (k : Int) := by omega
            obtain ⟨x, ex⟩ : ∃ x, xs[k]? = some x := ⟨_, List.getElem?_eq_getElem (by have := HN.out; omega)⟩
            have HXV := Lib.hid (cvL_at HT3.out ex)
            obtain ⟨v, hv, hvb, hst⟩ := fcP_step (rs := rs) (ms := ms) ex
            obtain ⟨nf, hnf⟩ : ∃ nf : Nat, cvF rs ms x = (nf : Int) := ⟨(cvF rs ms x).toNat, by have := cvF_bd rs ms x; omega⟩
            have hfb := cvF_bd rs ms x
            obtain ⟨L, hL⟩ : ∃ L, L = fcP rs ms xs k := ⟨_, rfl⟩
            have hLn : L.length = 6 := by rw [hL]; exact fcP_len _ _ _ _
            rw [← hL] at KO hst hv
            rw [hnf, Int.toNat_natCast] at hst hv
            have HST := Lib.hid hst
            obtain ⟨g, o, eA, hgl, c0, c1, c2, c3, c4, c5, c6, c7, c8⟩ := (HD.out.below HBK.out).at9 ex
            subst eA
            have CX := Lib.hid (fun w h h2 => CF.out w x h h2 HT1.out HT2.out HXV.out)
            rw [hnf] at CX hfb
            have hf0 : (0 : Int) ≤ (nf : Int) := by omega
            have hf1 : (nf : Int) < 6 := by omega
            have hf2 : (nf : Int) ≤ 5 := by omega
            have hwv : IntKind.i64.wrap (v + 1) = v + 1 := IntWalk.i64_in _ (by omega)
            have HV := Lib.hid (show (cells1 L)[nf]? = some (.int .i64 v) by simp [cells1, hv])
            clear ex hst hL hnf hv
            go_wp2_with fail
            refine (CX.out _ (HA.out.below HBK.out) (HB.out.below HBK.out)).mono ?_
            rintro e w5 ⟨rfl, b5⟩
            have KO5 := Lib.hid (KO.out.below b5 KO.out.lt)
            have KR5 := Lib.hid (KR.out.below b5 KR.out.lt)
            have HB5 := Lib.hid (HBK.out.trans (b5.mono hsw))
            have hs5 := HB5.out.size
            have o5 := KO5.out.cell nf _ HV.out
            have f5 := KO5.out.fr nf (by simp [cells1]; omega)
            have KO6 := Lib.hid (KO5.out.set (i := nf) (by simp [cells1]; omega) (.int .i64 (v + 1)))
            rw [cells1_set, ← HST.out] at KO6
            have KR6 := Lib.hid (KR5.out.other (g := w.heap.size + 1) (i := nf) (by omega) (.int .i64 (v + 1)))
            have HB6 := Lib.hid (below_set HB5.out (G := w.heap.size + 1) (by omega) hs5 nf (.int .i64 (v + 1)))
            clear b5 c0 c1 c2 c3 c4 c5 c6 c7 c8
            go_wp2
            go_roundw
            case rel => exact ⟨k + 1, by go_num, by omega, KO6.out, KR6.out, HB6.out⟩
            case measure => simp [intOf]; omega
          · obtain rfl : k = n3 := by omega
            obtain ⟨z0, z1, z2, z3, z4, z5, hz⟩ := list6 (fcP_len rs ms xs k)
            rw [hz] at KO
            have HFZ : Hid (fcP rs ms xs xs.length = [z0, z1, z2, z3, z4, z5]) := Lib.hid (by rw [HN.out]; exact hz)
            clear hz
            have rr0 := KR.out.cell 0 _ rfl
            have rf0 := KR.out.fr 0 (by simp [cells1])
            have rr1 := KR.out.cell 1 _ rfl
            have rf1 := KR.out.fr 1 (by simp [cells1])
            have rr2 := KR.out.cell 2 _ rfl
            have rf2 := KR.out.fr 2 (by simp [cells1])
            have rr3 := KR.out.cell 3 _ rfl
            have rf3 := KR.out.fr 3 (by simp [cells1])
            have rr4 := KR.out.cell 4 _ rfl
            have rf4 := KR.out.fr 4 (by simp [cells1])
            have rr5 := KR.out.cell 5 _ rfl
            have rf5 := KR.out.fr 5 (by simp [cells1])
            have oo0 := KO.out.cell 0 _ rfl
            have oo1 := KO.out.cell 1 _ rfl
            have oo2 := KO.out.cell 2 _ rfl
            have oo3 := KO.out.cell 3 _ rfl
            have oo4 := KO.out.cell 4 _ rfl
            have oo5 := KO.out.cell 5 _ rfl
            go_wp2
            exact bodyPost_ret (v := .tuple #[.agg #[.int .i64 z0, .int .i64 z1, .int .i64 z2, .int .i64 z3, .int .i64 z4, .int .i64 z5], .bool true]) (by simp [results, Try.results12, go_sem, rr0, rr1, rr2, rr3, rr4, rr5]) rfl ⟨by rw [HFZ.out]; rfl, (below_set (below_set (below_set (below_set (below_set (below_set HBK.out (Nat.le_refl _) (by simpa using hsw) 0 _) (Nat.le_refl _) (by simpa using hsw) 1 _) (Nat.le_refl _) (by simpa using hsw) 2 _) (Nat.le_refl _) (by simpa using hsw) 3 _) (Nat.le_refl _) (by simpa using hsw) 4 _) (Nat.le_refl _) (by simpa using hsw) 5 _)⟩
end Go.Proofs.Ytobloedpmjkgpaa
