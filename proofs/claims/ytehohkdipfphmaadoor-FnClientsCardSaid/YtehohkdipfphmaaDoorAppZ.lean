/- Approvals: BoughtBy and ItemsOut. -/
import Derived.Test.YtehohkdipfphmaaDoorAppY
import Derived.Test.YtehohkdipfphmaaDoorAppV
import Derived.Test.YtehohkdipfphmaaDoorPut
import Derived.Test.YtehohkdipfphmaaDoorSortA
namespace Go.Proofs.YtehohkdipfphmaaDoor
set_option linter.unusedVariables false
set_option linter.unusedSimpArgs false
open Go.RowKit Go.Lib

def byP (cl : ByteArray) (x : AR) : Bool := x.client.toList == cl.toList
def byF (cl : ByteArray) (x : AR) : List Int := if byP cl x = true then x.kept else []
noncomputable def byB (xs : List AR) (cl : ByteArray) : Bool := goodA xs && wordB cl
noncomputable def byV (xs : List AR) (cl : ByteArray) : List Int := if byB xs cl = true then putAll (catP (byF cl) xs xs.length) else []
theorem by_ok {xs : List AR} (h : goodA xs = true) (cl : ByteArray) : okF (byF cl) xs := okF_kept (goodA_ones h) (byP cl)
theorem byV_len (xs : List AR) (cl : ByteArray) : (byV xs cl).length ≤ 1048576 := by
  unfold byV
  split
  · rename_i h
    have hg : goodA xs = true := by simp only [byB, Bool.and_eq_true] at h; exact h.1
    have := put_len (catP_bd (by_ok hg cl) xs.length)
    omega
  · simp
def ioP (day : Int) (x : AR) : Bool := outB x day
def ioF (day : Int) (x : AR) : List Int := if ioP day x = true then x.items else []
noncomputable def ioB (xs : List AR) (day : Int) : Bool := goodA xs && inR day 0 4000
noncomputable def ioV (xs : List AR) (day : Int) : List Int := if ioB xs day = true then putAll (catP (ioF day) xs xs.length) else []
theorem io_ok {xs : List AR} (h : goodA xs = true) (day : Int) : okF (ioF day) xs := okF_items (goodA_ones h) (ioP day)
theorem ioV_len (xs : List AR) (day : Int) : (ioV xs day).length ≤ 1048576 := by
  unfold ioV
  split
  · rename_i h
    have hg : goodA xs = true := by simp only [ioB, Bool.and_eq_true] at h; exact h.1
    have := put_len (catP_bd (io_ok hg day) xs.length)
    omega
  · simp

set_option maxRecDepth 20000 in
set_option maxHeartbeats 4000000 in
theorem specBoughtBy_any (A : Option Addr) (n c : Nat) (xs : List AR) (cl : ByteArray) (w : World) (hn : xs.length = n) (hA : RdA w A xs) (h20 : n ≤ 1048576) (hw : ∀ x ∈ xs, smA x) (hcap : n ≤ c ∧ c ≤ maxLen) (hcl : (cl.size : Int) ≤ 1048576) :
    Calls Tryd.prog 7 #[.slice A n c, .string cl] w (RetOwnB 3 1 (byV xs cl).length (cells1 (byV xs cl)) (byB xs cl) w) := by
  have C0 := Lib.hid (fun w h => l28Good_any A n c xs w hn h (by omega) hw)
  have C1 := Lib.hid (fun w => l2Word_any cl w (by omega))
  have HA := Lib.hid hA
  have HW := Lib.hid hw
  have HN := Lib.hid hn
  obtain ⟨V, hV⟩ : ∃ V, V = byV xs cl := ⟨_, rfl⟩
  obtain ⟨Q, hQ⟩ : ∃ Q, Q = byB xs cl := ⟨_, rfl⟩
  rw [← hV, ← hQ]
  have HV := Lib.hid hV
  have HQ := Lib.hid hQ
  clear hV hQ hn hA hw hcap
  cases h0 : goodA xs with
  | false =>
    have HF : Hid (byB xs cl = false) := Lib.hid (by simp only [byB, h0, Bool.false_and])
    rw [h0] at C0
    clear h0
    go_enter Tryd.func7, Tryd.ntmps7
    go_wp2_with fail
    refine (C0.out _ (HA.out.alloc _)).mono ?_
    rintro e w1 ⟨rfl, b1⟩
    have B1 := Lib.hid (((Below.refl w.heap.size w).alloc (Nat.le_refl _) (.cells #[] 3)).trans (b1.mono (by simp)))
    go_wp2
    go_ret2
    have e0 : V = [] := by rw [HV.out, byV, if_neg (by rw [HF.out]; simp)]
    subst e0
    rw [show Q = false by rw [HQ.out, HF.out]]
    exact ⟨_, rfl, own_below (own_empty w w.heap.size 3 1 (Nat.le_refl _)) b1, B1.out⟩
  | true =>
    rw [h0] at C0
    cases h1 : wordB cl with
    | false =>
      have HF : Hid (byB xs cl = false) := Lib.hid (by simp only [byB, h0, h1, Bool.true_and])
      rw [h1] at C1
      clear h0 h1
      go_enter Tryd.func7, Tryd.ntmps7
      go_wp2_with fail
      refine (C0.out _ (HA.out.alloc _)).mono ?_
      rintro e w1 ⟨rfl, b1⟩
      go_wp2_with fail
      refine (C1.out _).mono ?_
      rintro e w2 ⟨rfl, rfl⟩
      have B1 := Lib.hid (((Below.refl w.heap.size w).alloc (Nat.le_refl _) (.cells #[] 3)).trans (b1.mono (by simp)))
      go_wp2
      go_ret2
      have e0 : V = [] := by rw [HV.out, byV, if_neg (by rw [HF.out]; simp)]
      subst e0
      rw [show Q = false by rw [HQ.out, HF.out]]
      exact ⟨_, rfl, own_below (own_empty w w.heap.size 3 1 (Nat.le_refl _)) b1, B1.out⟩
    | true =>
      rw [h1] at C1
      have HT : Hid (byB xs cl = true) := Lib.hid (by simp only [byB, h0, h1, Bool.true_and])
      have HG := Lib.hid h0
      have hn12 : n ≤ 12 := by have := (goodA_yes h0).2; have := HN.out; omega
      have HOK := Lib.hid (by_ok h0 cl)
      clear h0 h1
      go_enter Tryd.func7, Tryd.ntmps7
      go_wp2_with fail
      refine (C0.out _ (HA.out.alloc _)).mono ?_
      rintro e w1 ⟨rfl, b1⟩
      go_wp2_with fail
      refine (C1.out _).mono ?_
      rintro e w2 ⟨rfl, rfl⟩
      have O1 := Lib.hid (own_below (own_empty w w.heap.size 3 1 (Nat.le_refl _)) b1)
      have B1 := Lib.hid (((Below.refl w.heap.size w).alloc (Nat.le_refl _) (.cells #[] 3)).trans (b1.mono (by simp)))
      clear b1
      go_wp2_with fail
      go_loopw [6, 7] (fun v i wr => ∃ k : Nat, k ≤ n ∧ i = .int .i64 k ∧ wr.ownsRow w.heap.size 3 1 v (putAll (catP (byF cl) xs k)).length (cells1 (putAll (catP (byF cl) xs k))) ∧ Below w.heap.size w wr) (fun _ i _ => n - (intOf i).toNat)
      case atStart => exact ⟨0, Nat.zero_le _, rfl, by simpa [catP, putAll, cells1] using O1.out, B1.out⟩
      case round =>
        obtain ⟨k, hk, rfl, ho, hb⟩ := hrel
        have hs := hb.size
        have HO := Lib.hid ho
        have HB := Lib.hid hb
        clear ho
        obtain ⟨L, hL⟩ : ∃ L, L = catP (byF cl) xs k := ⟨_, rfl⟩
        rw [← hL] at HO
        have HLB : Hid (∀ z ∈ L, 1 ≤ z ∧ z ≤ 999) := Lib.hid (by rw [hL]; exact catP_bd HOK.out k)
        have hLl : L.length ≤ 999 * 12 := by have := catP_len HOK.out k; rw [← hL] at this; omega
        have HL := Lib.hid hL
        clear hL
        by_cases hlt : k < n
        · obtain ⟨x, hxk⟩ : ∃ x, xs[k]? = some x := ⟨xs[k]'(by have := HN.out; omega), List.getElem?_eq_getElem _⟩
          obtain ⟨g, o, B, cb, D, cd, rfl, hrow0⟩ := HA.out.at hxk
          have HROW := Lib.hid hrow0
          have hone := goodA_ones HG.out x (List.mem_of_getElem? hxk)
          have hbk := one_back hone
          have HPB : Hid (∀ z ∈ x.kept, 1 ≤ z ∧ z ≤ 999) := Lib.hid (one_kept hone).2
          have hpl : x.kept.length ≤ 999 := ss_999 (one_kept hone).1 (one_kept hone).2
          have HST := Lib.hid (catP_step (f := (byF cl)) hxk)
          rw [← HL.out] at HST
          obtain ⟨hg, -, c0, c1, c2, c3, c4, c5, -, -, -, -, -, -⟩ := hrow0.below hb
          clear hxk hone hrow0
          cases p1 : x.client.toList == cl.toList with
          | false =>
            have HS : Hid (catP (byF cl) xs (k + 1) = L) := Lib.hid (by rw [HST.out, byF, if_neg (by rw [byP, p1]; simp)]; exact List.append_nil _)
            go_wp2_with fail
            go_loopw [6, 8] (fun v j wr => j = .int .i64 0 ∧ wr.ownsRow w.heap.size 3 1 v (putAll L).length (cells1 (putAll L)) ∧ Below w.heap.size w wr) (fun _ _ _ => 0)
            case atStart => exact ⟨rfl, HO.out, HB.out⟩
            case round =>
              clear c0 c1 c2 c3 c4 c5 hg
              obtain ⟨rfl, ho, hb2⟩ := hrel
              obtain ⟨hg, -, c0, c1, c2, c3, c4, c5, -, -, -, -, -, -⟩ := HROW.out.below hb2
              have HO2 := Lib.hid ho
              clear ho
              have hs2 := hb2.size
              by_cases hz : 0 < x.kept.length
              · have e0 : decide ((0 : Int) < (x.kept.length : Int)) = true := decide_eq_true (by omega)
                go_wp2
                go_roundw
                case rel => exact ⟨k + 1, by omega, by go_num, by rw [HS.out]; exact HO2.out, hb2⟩
                case measure => simp [intOf]; omega
              · have e0 : decide ((0 : Int) < (x.kept.length : Int)) = false := decide_eq_false (by omega)
                go_wp2
                go_roundw
                case rel => exact ⟨k + 1, by omega, by go_num, by rw [HS.out]; exact HO2.out, hb2⟩
                case measure => simp [intOf]; omega
          | true =>
            have HS : Hid (catP (byF cl) xs (k + 1) = L ++ x.kept) := Lib.hid (by rw [HST.out, byF, if_pos (by rw [byP, p1])])
            go_wp2_with fail
            go_loopw [6, 8] (fun v j wr => ∃ m : Nat, m ≤ x.kept.length ∧ j = .int .i64 m ∧ wr.ownsRow w.heap.size 3 1 v (putAll (L ++ x.kept.take m)).length (cells1 (putAll (L ++ x.kept.take m))) ∧ Below w.heap.size w wr) (fun _ j _ => x.kept.length - (intOf j).toNat)
            case atStart => exact ⟨0, Nat.zero_le _, rfl, by simpa using HO.out, HB.out⟩
            case round =>
              clear c0 c1 c2 c3 c4 c5 hg
              obtain ⟨m, hm, rfl, ho, hb2⟩ := hrel
              obtain ⟨hg, -, c0, c1, c2, c3, c4, c5, -, -, -, -, -, -⟩ := HROW.out.below hb2
              have HO2 := Lib.hid ho
              clear ho
              have hs2 := hb2.size
              by_cases hlm : m < x.kept.length
              · obtain ⟨y, hym⟩ : ∃ y, x.kept[m]? = some y := ⟨x.kept[m], List.getElem?_eq_getElem hlm⟩
                have HPT := Lib.hid (put_take (zs := L) hym)
                have hpz : (putAll (L ++ x.kept.take m)).length ≤ 999 := put_len (fun z hz => by
                  rcases List.mem_append.1 hz with h | h
                  · exact HLB.out z h
                  · exact HPB.out z (List.mem_of_mem_take h))
                obtain ⟨g2, o2, hge, hg2, d0⟩ := (HROW.out.below hb2).rD.at1 hym
                subst hge
                go_wp2_with fail
                refine (l1Put_any w.heap.size _ (putAll (L ++ x.kept.take m)) y _ HO2.out hs2 (by omega)).mono ?_
                rintro e w5 ⟨v', rfl, o5, b5⟩
                have HB5 := hb2.trans (b5.mono hb2.size)
                have HO5 := Lib.hid o5
                clear o5 b5
                go_wp2
                go_roundw
                case rel => exact ⟨m + 1, by omega, by go_num, by rw [HPT.out]; exact HO5.out, HB5⟩
                case measure => simp [intOf]; omega
              · have hml : m = x.kept.length := by omega
                have hdm : decide (m < x.kept.length) = false := by simpa using hlm
                have HE := Lib.hid (show L ++ x.kept.take m = catP (byF cl) xs (k + 1) by rw [HS.out, hml, List.take_length])
                clear hml
                go_wp2
                go_roundw
                case rel => exact ⟨k + 1, by omega, by go_num, by rw [← HE.out]; exact HO2.out, hb2⟩
                case measure => simp [intOf]; omega
        · have hd : decide (k < n) = false := by simpa using hlt
          have hkn : k = xs.length := by have := HN.out; omega
          have HVE : Hid (V = putAll L) := Lib.hid (by rw [HV.out, byV, if_pos HT.out, HL.out, hkn])
          have HQE := Lib.hid (show Q = true by rw [HQ.out, HT.out])
          clear hkn
          go_wp2
          go_ret2
          rw [HQE.out, HVE.out]
          exact ⟨_, rfl, HO.out, HB.out⟩

set_option maxRecDepth 20000 in
set_option maxHeartbeats 4000000 in
theorem implBoughtBy_any (A : Option Addr) (n c : Nat) (xs : List AR) (cl : ByteArray) (w : World) (hn : xs.length = n) (hA : RdA w A xs) (h20 : n ≤ 1048576) (hw : ∀ x ∈ xs, smA x) (hcap : n ≤ c ∧ c ≤ maxLen) (hcl : (cl.size : Int) ≤ 1048576) :
    Calls Tryd.prog 6 #[.slice A n c, .string cl] w (RetOwnB 3 1 (byV xs cl).length (cells1 (byV xs cl)) (byB xs cl) w) := by
  have C0 := Lib.hid (fun w h => areApprovals_any A n c xs w hn h (by omega) hw hcap)
  have C1 := Lib.hid (fun w => isWord_any cl w (by omega))
  have HA := Lib.hid hA
  have HW := Lib.hid hw
  have HN := Lib.hid hn
  obtain ⟨V, hV⟩ : ∃ V, V = byV xs cl := ⟨_, rfl⟩
  obtain ⟨Q, hQ⟩ : ∃ Q, Q = byB xs cl := ⟨_, rfl⟩
  rw [← hV, ← hQ]
  have HV := Lib.hid hV
  have HQ := Lib.hid hQ
  clear hV hQ hn hA hw hcap
  cases h0 : goodA xs with
  | false =>
    have HF : Hid (byB xs cl = false) := Lib.hid (by simp only [byB, h0, Bool.false_and])
    rw [h0] at C0
    clear h0
    go_enter Tryd.func6, Tryd.ntmps6
    go_wp2_with fail
    refine (C0.out _ HA.out).mono ?_
    rintro e w1 ⟨rfl, b1⟩
    have B1 := Lib.hid b1
    go_wp2
    go_ret2
    have e0 : V = [] := by rw [HV.out, byV, if_neg (by rw [HF.out]; simp)]
    subst e0
    rw [show Q = false by rw [HQ.out, HF.out]]
    exact ⟨_, rfl, World.ownsRow_nil _ _ _ _, B1.out⟩
  | true =>
    rw [h0] at C0
    cases h1 : wordB cl with
    | false =>
      have HF : Hid (byB xs cl = false) := Lib.hid (by simp only [byB, h0, h1, Bool.true_and])
      rw [h1] at C1
      clear h0 h1
      go_enter Tryd.func6, Tryd.ntmps6
      go_wp2_with fail
      refine (C0.out _ HA.out).mono ?_
      rintro e w1 ⟨rfl, b1⟩
      go_wp2_with fail
      refine (C1.out _).mono ?_
      rintro e w2 ⟨rfl, rfl⟩
      have B1 := Lib.hid b1
      go_wp2
      go_ret2
      have e0 : V = [] := by rw [HV.out, byV, if_neg (by rw [HF.out]; simp)]
      subst e0
      rw [show Q = false by rw [HQ.out, HF.out]]
      exact ⟨_, rfl, World.ownsRow_nil _ _ _ _, B1.out⟩
    | true =>
      rw [h1] at C1
      have HT : Hid (byB xs cl = true) := Lib.hid (by simp only [byB, h0, h1, Bool.true_and])
      have HG := Lib.hid h0
      have hn12 : n ≤ 12 := by have := (goodA_yes h0).2; have := HN.out; omega
      have HOK := Lib.hid (by_ok h0 cl)
      clear h0 h1
      go_enter Tryd.func6, Tryd.ntmps6
      go_wp2_with fail
      refine (C0.out _ HA.out).mono ?_
      rintro e w1 ⟨rfl, b1⟩
      go_wp2_with fail
      refine (C1.out _).mono ?_
      rintro e w2 ⟨rfl, rfl⟩
      have B1 := Lib.hid b1
      clear b1
      go_wp2_with fail
      go_loopw [6, 19] (fun v i wr => ∃ k : Nat, k ≤ n ∧ i = .int .i64 k ∧ wr.ownsRow w.heap.size 3 1 v (catP (byF cl) xs k).length (cells1 (catP (byF cl) xs k)) ∧ Below w.heap.size w wr) (fun _ i _ => n - (intOf i).toNat)
      case atStart => exact ⟨0, Nat.zero_le _, rfl, by simpa [catP, putAll, cells1] using World.ownsRow_nil _ _ _ _, B1.out⟩
      case round =>
        obtain ⟨k, hk, rfl, ho, hb⟩ := hrel
        have hs := hb.size
        have HO := Lib.hid ho
        have HB := Lib.hid hb
        clear ho
        obtain ⟨L, hL⟩ : ∃ L, L = catP (byF cl) xs k := ⟨_, rfl⟩
        rw [← hL] at HO
        have HLB : Hid (∀ z ∈ L, 1 ≤ z ∧ z ≤ 999) := Lib.hid (by rw [hL]; exact catP_bd HOK.out k)
        have hLl : L.length ≤ 999 * 12 := by have := catP_len HOK.out k; rw [← hL] at this; omega
        have HL := Lib.hid hL
        clear hL
        by_cases hlt : k < n
        · obtain ⟨x, hxk⟩ : ∃ x, xs[k]? = some x := ⟨xs[k]'(by have := HN.out; omega), List.getElem?_eq_getElem _⟩
          obtain ⟨g, o, B, cb, D, cd, rfl, hrow0⟩ := HA.out.at hxk
          have HROW := Lib.hid hrow0
          have hone := goodA_ones HG.out x (List.mem_of_getElem? hxk)
          have hbk := one_back hone
          have HPB : Hid (∀ z ∈ x.kept, 1 ≤ z ∧ z ≤ 999) := Lib.hid (one_kept hone).2
          have hpl : x.kept.length ≤ 999 := ss_999 (one_kept hone).1 (one_kept hone).2
          have HST := Lib.hid (catP_step (f := (byF cl)) hxk)
          rw [← HL.out] at HST
          obtain ⟨hg, -, c0, c1, c2, c3, c4, c5, -, -, -, -, -, -⟩ := hrow0.below hb
          clear hxk hone hrow0
          cases p1 : x.client.toList == cl.toList with
          | false =>
            have HS : Hid (catP (byF cl) xs (k + 1) = L) := Lib.hid (by rw [HST.out, byF, if_neg (by rw [byP, p1]; simp)]; exact List.append_nil _)
            obtain ⟨W3, hW3⟩ : ∃ W3, W3 = wr.alloc (.cells #[.int .i64 x.id, .string x.client, .int .i64 x.sent, .slice B x.items.length cb, .slice D x.kept.length cd, .int .i64 x.back] 34) := ⟨_, rfl⟩
            have B3 : Hid (Below wr.heap.size wr W3) := Lib.hid (by rw [hW3]; exact (Below.refl _ _).alloc (Nat.le_refl _) _)
            have Y3 : Hid (Blk W3 wr.heap.size [.int .i64 x.id, .string x.client, .int .i64 x.sent, .slice B x.items.length cb, .slice D x.kept.length cd, .int .i64 x.back]) := Lib.hid (by rw [hW3]; exact Blk.new _ _ _)
            have HBR := Lib.hid (HB.out.trans (B3.out.mono hs))
            have HO3 := Lib.hid (own_below HO.out B3.out)
            have HW3 := Lib.hid hW3
            clear hW3
            have HRD := Lib.hid ((HROW.out.below HBR.out).rD)
            have y1 := Y3.out.cell 1 _ rfl
            have y4 := Y3.out.cell 4 _ rfl
            have hy := Y3.out.lt
            have hs3 := HBR.out.size
            rw [HW3.out] at y1 y4 hy HO3 HRD HBR hs3
            go_wp2
            go_roundw
            case rel => exact ⟨k + 1, by omega, by go_num, by rw [HS.out]; exact HO3.out, HBR.out⟩
            case measure => simp [intOf]; omega
          | true =>
            have HS : Hid (catP (byF cl) xs (k + 1) = L ++ x.kept) := Lib.hid (by rw [HST.out, byF, if_pos (by rw [byP, p1])])
            obtain ⟨W3, hW3⟩ : ∃ W3, W3 = wr.alloc (.cells #[.int .i64 x.id, .string x.client, .int .i64 x.sent, .slice B x.items.length cb, .slice D x.kept.length cd, .int .i64 x.back] 34) := ⟨_, rfl⟩
            have B3 : Hid (Below wr.heap.size wr W3) := Lib.hid (by rw [hW3]; exact (Below.refl _ _).alloc (Nat.le_refl _) _)
            have Y3 : Hid (Blk W3 wr.heap.size [.int .i64 x.id, .string x.client, .int .i64 x.sent, .slice B x.items.length cb, .slice D x.kept.length cd, .int .i64 x.back]) := Lib.hid (by rw [hW3]; exact Blk.new _ _ _)
            have HBR := Lib.hid (HB.out.trans (B3.out.mono hs))
            have HO3 := Lib.hid (own_below HO.out B3.out)
            have HW3 := Lib.hid hW3
            clear hW3
            have HRD := Lib.hid ((HROW.out.below HBR.out).rD)
            have y1 := Y3.out.cell 1 _ rfl
            have y4 := Y3.out.cell 4 _ rfl
            have hy := Y3.out.lt
            have hs3 := HBR.out.size
            rw [HW3.out] at y1 y4 hy HO3 HRD HBR hs3
            go_wp2_with (at_builtin; go_must (refine wpList_app _ rfl (.tmp 27) (.tmp 29) 27 rfl w.heap.size 3 _ 1 8 Tryd.underlying27 infoI rfl (by omega) _ _ _ rfl HO3.out D x.kept.length cd (cells1 x.kept) rfl (by rw [length_cells1]; omega) HRD.out (oneCell_ints _) (by unfold maxLen; omega) (by omega) (by first | exact HBR.out.size | (simp; omega)) ?_); intro v' w' o' g' d'; have hb' := Lib.hid (HBR.out.trans (below_app HO3.out g' (by first | exact HBR.out.size | (simp; omega)) (Nat.le_refl _))); clear g' d')
            have HO6 := Lib.hid o'
            clear o'
            go_roundw
            case rel => exact ⟨k + 1, by omega, by go_num, by rw [HS.out, cells1_append, List.length_append]; exact HO6.out, hb'.out⟩
            case measure => simp [intOf]; omega
        · have hd : decide (k < n) = false := by simpa using hlt
          have hkn : k = xs.length := by have := HN.out; omega
          have HVE : Hid (V = putAll L) := Lib.hid (by rw [HV.out, byV, if_pos HT.out, HL.out, hkn])
          have HQE := Lib.hid (show Q = true by rw [HQ.out, HT.out])
          have HSR : Hid (srt L = putAll L) := Lib.hid (srt_nodup (by rw [HL.out]; exact kept_nodup HG.out (byP cl) k))
          clear hkn
          go_wp2_with fail
          refine (sortInt_any w.heap.size _ _ L _ HO.out rfl (by omega)).mono ?_
          rintro e w5 ⟨rfl, o5, g5⟩
          have HB5 := Lib.hid (HB.out.grown g5 HB.out.size (fun q hq => (HO.out.lt q hq).1))
          have HO5 := Lib.hid o5
          clear o5 g5
          go_wp2
          go_ret2
          rw [HQE.out, HVE.out, ← HSR.out]
          refine ⟨_, rfl, ?_, HB5.out⟩
          rw [srt_len]
          exact HO5.out

set_option maxRecDepth 20000 in
set_option maxHeartbeats 4000000 in
theorem implItemsOut_any (A : Option Addr) (n c : Nat) (xs : List AR) (day : Int) (w : World) (hn : xs.length = n) (hA : RdA w A xs) (h20 : n ≤ 1048576) (hw : ∀ x ∈ xs, smA x) (hcap : n ≤ c ∧ c ≤ maxLen) :
    Calls Tryd.prog 17 #[.slice A n c, .int .i64 day] w (RetOwnB 3 1 (ioV xs day).length (cells1 (ioV xs day)) (ioB xs day) w) := by
  have C0 := Lib.hid (fun w h => areApprovals_any A n c xs w hn h (by omega) hw hcap)
  have C1 := Lib.hid (fun w => isDay_any day w)
  have HA := Lib.hid hA
  have HW := Lib.hid hw
  have HN := Lib.hid hn
  obtain ⟨V, hV⟩ : ∃ V, V = ioV xs day := ⟨_, rfl⟩
  obtain ⟨Q, hQ⟩ : ∃ Q, Q = ioB xs day := ⟨_, rfl⟩
  rw [← hV, ← hQ]
  have HV := Lib.hid hV
  have HQ := Lib.hid hQ
  clear hV hQ hn hA hw hcap
  cases h0 : goodA xs with
  | false =>
    have HF : Hid (ioB xs day = false) := Lib.hid (by simp only [ioB, h0, Bool.false_and])
    rw [h0] at C0
    clear h0
    go_enter Tryd.func17, Tryd.ntmps17
    go_wp2_with fail
    refine (C0.out _ HA.out).mono ?_
    rintro e w1 ⟨rfl, b1⟩
    have B1 := Lib.hid b1
    go_wp2
    go_ret2
    have e0 : V = [] := by rw [HV.out, ioV, if_neg (by rw [HF.out]; simp)]
    subst e0
    rw [show Q = false by rw [HQ.out, HF.out]]
    exact ⟨_, rfl, World.ownsRow_nil _ _ _ _, B1.out⟩
  | true =>
    rw [h0] at C0
    cases h1 : inR day 0 4000 with
    | false =>
      have HF : Hid (ioB xs day = false) := Lib.hid (by simp only [ioB, h0, h1, Bool.true_and])
      rw [h1] at C1
      clear h0 h1
      go_enter Tryd.func17, Tryd.ntmps17
      go_wp2_with fail
      refine (C0.out _ HA.out).mono ?_
      rintro e w1 ⟨rfl, b1⟩
      go_wp2_with fail
      refine (C1.out _).mono ?_
      rintro e w2 ⟨rfl, rfl⟩
      have B1 := Lib.hid b1
      go_wp2
      go_ret2
      have e0 : V = [] := by rw [HV.out, ioV, if_neg (by rw [HF.out]; simp)]
      subst e0
      rw [show Q = false by rw [HQ.out, HF.out]]
      exact ⟨_, rfl, World.ownsRow_nil _ _ _ _, B1.out⟩
    | true =>
      rw [h1] at C1
      have HT : Hid (ioB xs day = true) := Lib.hid (by simp only [ioB, h0, h1, Bool.true_and])
      have HG := Lib.hid h0
      have hn12 : n ≤ 12 := by have := (goodA_yes h0).2; have := HN.out; omega
      have HOK := Lib.hid (io_ok h0 day)
      obtain ⟨hd0, hd1⟩ := inR_true.1 h1
      clear h0 h1
      go_enter Tryd.func17, Tryd.ntmps17
      go_wp2_with fail
      refine (C0.out _ HA.out).mono ?_
      rintro e w1 ⟨rfl, b1⟩
      go_wp2_with fail
      refine (C1.out _).mono ?_
      rintro e w2 ⟨rfl, rfl⟩
      have B1 := Lib.hid b1
      clear b1
      go_wp2_with fail
      go_loopw [6, 19] (fun v i wr => ∃ k : Nat, k ≤ n ∧ i = .int .i64 k ∧ wr.ownsRow w.heap.size 3 1 v (catP (ioF day) xs k).length (cells1 (catP (ioF day) xs k)) ∧ Below w.heap.size w wr) (fun _ i _ => n - (intOf i).toNat)
      case atStart => exact ⟨0, Nat.zero_le _, rfl, by simpa [catP, putAll, cells1] using World.ownsRow_nil _ _ _ _, B1.out⟩
      case round =>
        obtain ⟨k, hk, rfl, ho, hb⟩ := hrel
        have hs := hb.size
        have HO := Lib.hid ho
        have HB := Lib.hid hb
        clear ho
        obtain ⟨L, hL⟩ : ∃ L, L = catP (ioF day) xs k := ⟨_, rfl⟩
        rw [← hL] at HO
        have HLB : Hid (∀ z ∈ L, 1 ≤ z ∧ z ≤ 999) := Lib.hid (by rw [hL]; exact catP_bd HOK.out k)
        have hLl : L.length ≤ 999 * 12 := by have := catP_len HOK.out k; rw [← hL] at this; omega
        have HL := Lib.hid hL
        clear hL
        by_cases hlt : k < n
        · obtain ⟨x, hxk⟩ : ∃ x, xs[k]? = some x := ⟨xs[k]'(by have := HN.out; omega), List.getElem?_eq_getElem _⟩
          obtain ⟨g, o, B, cb, D, cd, rfl, hrow0⟩ := HA.out.at hxk
          have HROW := Lib.hid hrow0
          have hone := goodA_ones HG.out x (List.mem_of_getElem? hxk)
          have hbk := one_back hone
          have HPB : Hid (∀ z ∈ x.items, 1 ≤ z ∧ z ≤ 999) := Lib.hid (one_items hone).2
          have hpl : x.items.length ≤ 999 := ss_999 (one_items hone).1 (one_items hone).2
          have HST := Lib.hid (catP_step (f := (ioF day)) hxk)
          rw [← HL.out] at HST
          have CO := Lib.hid (fun w => isOut_any x B cb D cd day w)
          obtain ⟨hg, -, c0, c1, c2, c3, c4, c5, -, -, -, -, -, -⟩ := hrow0.below hb
          clear hxk hone hrow0
          cases p1 : outB x day with
          | false =>
            have HS : Hid (catP (ioF day) xs (k + 1) = L) := Lib.hid (by rw [HST.out, ioF, if_neg (by rw [ioP, p1]; simp)]; exact List.append_nil _)
            rw [p1] at CO
            obtain ⟨W3, hW3⟩ : ∃ W3, W3 = wr.alloc (.cells #[.int .i64 x.id, .string x.client, .int .i64 x.sent, .slice B x.items.length cb, .slice D x.kept.length cd, .int .i64 x.back] 34) := ⟨_, rfl⟩
            have B3 : Hid (Below wr.heap.size wr W3) := Lib.hid (by rw [hW3]; exact (Below.refl _ _).alloc (Nat.le_refl _) _)
            have Y3 : Hid (Blk W3 wr.heap.size [.int .i64 x.id, .string x.client, .int .i64 x.sent, .slice B x.items.length cb, .slice D x.kept.length cd, .int .i64 x.back]) := Lib.hid (by rw [hW3]; exact Blk.new _ _ _)
            have HBR := Lib.hid (HB.out.trans (B3.out.mono hs))
            have HO3 := Lib.hid (own_below HO.out B3.out)
            have HW3 := Lib.hid hW3
            clear hW3
            go_wp2_with fail
            rw [← HW3.out]
            have y3 := Y3.out.cell 3 _ rfl
            have hy := Y3.out.lt
            clear c0 c1 c2 c3 c4 c5
            refine (CO.out _).mono ?_
            rintro e w4 ⟨rfl, b4⟩
            have HB4 := Lib.hid (HBR.out.trans (b4.mono HBR.out.size))
            have HO4 := Lib.hid (own_below HO3.out b4)
            have z3 := (Y3.out.below b4 hy).cell 3 _ rfl
            have hs4 := HB4.out.size
            have hy4 := (Y3.out.below b4 hy).lt
            have HRB := Lib.hid ((HROW.out.below HB4.out).rB)
            clear b4 y3
            go_wp2
            go_roundw
            case rel => exact ⟨k + 1, by omega, by go_num, by rw [HS.out]; exact HO4.out, HB4.out⟩
            case measure => simp [intOf]; omega
          | true =>
            have HS : Hid (catP (ioF day) xs (k + 1) = L ++ x.items) := Lib.hid (by rw [HST.out, ioF, if_pos (by rw [ioP, p1])])
            rw [p1] at CO
            obtain ⟨W3, hW3⟩ : ∃ W3, W3 = wr.alloc (.cells #[.int .i64 x.id, .string x.client, .int .i64 x.sent, .slice B x.items.length cb, .slice D x.kept.length cd, .int .i64 x.back] 34) := ⟨_, rfl⟩
            have B3 : Hid (Below wr.heap.size wr W3) := Lib.hid (by rw [hW3]; exact (Below.refl _ _).alloc (Nat.le_refl _) _)
            have Y3 : Hid (Blk W3 wr.heap.size [.int .i64 x.id, .string x.client, .int .i64 x.sent, .slice B x.items.length cb, .slice D x.kept.length cd, .int .i64 x.back]) := Lib.hid (by rw [hW3]; exact Blk.new _ _ _)
            have HBR := Lib.hid (HB.out.trans (B3.out.mono hs))
            have HO3 := Lib.hid (own_below HO.out B3.out)
            have HW3 := Lib.hid hW3
            clear hW3
            go_wp2_with fail
            rw [← HW3.out]
            have y3 := Y3.out.cell 3 _ rfl
            have hy := Y3.out.lt
            clear c0 c1 c2 c3 c4 c5
            refine (CO.out _).mono ?_
            rintro e w4 ⟨rfl, b4⟩
            have HB4 := Lib.hid (HBR.out.trans (b4.mono HBR.out.size))
            have HO4 := Lib.hid (own_below HO3.out b4)
            have z3 := (Y3.out.below b4 hy).cell 3 _ rfl
            have hs4 := HB4.out.size
            have hy4 := (Y3.out.below b4 hy).lt
            have HRB := Lib.hid ((HROW.out.below HB4.out).rB)
            clear b4 y3
            go_wp2_with (at_builtin; go_must (refine wpList_app _ rfl (.tmp 26) (.tmp 28) 27 rfl w.heap.size 3 _ 1 8 Tryd.underlying27 infoI rfl (by omega) _ _ _ rfl HO4.out B x.items.length cb (cells1 x.items) rfl (by rw [length_cells1]; omega) HRB.out (oneCell_ints _) (by unfold maxLen; omega) (by omega) (by first | exact HB4.out.size | (simp; omega)) ?_); intro v' w' o' g' d'; have hb' := Lib.hid (HB4.out.trans (below_app HO4.out g' (by first | exact HB4.out.size | (simp; omega)) (Nat.le_refl _))); clear g' d')
            have HO6 := Lib.hid o'
            clear o'
            go_roundw
            case rel => exact ⟨k + 1, by omega, by go_num, by rw [HS.out, cells1_append, List.length_append]; exact HO6.out, hb'.out⟩
            case measure => simp [intOf]; omega
        · have hd : decide (k < n) = false := by simpa using hlt
          have hkn : k = xs.length := by have := HN.out; omega
          have HVE : Hid (V = putAll L) := Lib.hid (by rw [HV.out, ioV, if_pos HT.out, HL.out, hkn])
          have HQE := Lib.hid (show Q = true by rw [HQ.out, HT.out])
          clear hkn
          go_wp2_with fail
          refine (sortInt_any w.heap.size _ _ L _ HO.out rfl (by omega)).mono ?_
          rintro e w5 ⟨rfl, o5, g5⟩
          have HB5 := Lib.hid (HB.out.grown g5 HB.out.size (fun q hq => (HO.out.lt q hq).1))
          have HO5 := Lib.hid o5
          clear o5 g5
          go_wp2_with fail
          refine (compactInt_any w.heap.size _ _ (srt L) _ HO5.out (srt_len L) (by omega)).mono ?_
          rintro e w6 ⟨u, rfl, o6, g6, -⟩
          have HB6 := Lib.hid (HB5.out.grown g6 HB5.out.size (fun q hq => (HO5.out.lt q hq).1))
          rw [compact_srt] at o6
          have HO6 := Lib.hid o6
          clear o6 g6
          go_wp2
          go_ret2
          rw [HQE.out, HVE.out]
          exact ⟨_, rfl, HO6.out, HB6.out⟩

end Go.Proofs.YtehohkdipfphmaaDoor
