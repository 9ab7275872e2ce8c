/- The reference's chain is the best path. -/
import Derived.Test.YtpmklcpplpnlhaaTreF
namespace Go.Proofs.Ytpmklcpplpnlhaa
set_option linter.unusedVariables false
set_option linter.unusedSimpArgs false
open Go.RowKit

theorem nbL_sorted (xs : List R5) (day u : Int) : (nbL xs day u).Pairwise (· < ·) := List.Pairwise.filter _ (by decide)
theorem nbL_mono {xs : List R5} {day u : Int} {i j : Nat} {x y : Int} (h : i ≤ j) (hx : (nbL xs day u)[i]? = some x) (hy : (nbL xs day u)[j]? = some y) : x ≤ y := by
  rcases Nat.lt_or_eq_of_le h with h | h
  · have hs := nbL_sorted xs day u
    rw [List.pairwise_iff_getElem] at hs
    obtain ⟨li, ei⟩ := List.getElem?_eq_some_iff.1 hx
    obtain ⟨lj, ej⟩ := List.getElem?_eq_some_iff.1 hy
    have := hs i j li lj h
    rw [ei, ej] at this; omega
  · subst h; rw [hx] at hy; injection hy with hy; omega

set_option maxRecDepth 20000 in
set_option maxHeartbeats 4000000 in
theorem l25Chain_any (A : Option Addr) (n c : Nat) (xs : List R5) (a b : Nat) (day : Int) (w : World) (hn : xs.length = n) (hA : Rd w A (cells5 xs)) (hv : trL xs = true) (ha : a < 9) (hbb : b < 9) :
    Calls Try.prog 57 #[.slice A n c, .int .i64 a, .int .i64 b, .int .i64 day] w (RetOwn 3 1 (chV (adjT xs day) a b).length (cells1 (chV (adjT xs day) a b)) w) := by
  have HV := Lib.hid hv
  have HG := Lib.hid (graphT hv day)
  have h20 : n ≤ 20 := by have := trL_len hv; omega
  have ha0 : (0 : Int) ≤ (a : Int) := by omega
  have ha8 : (a : Int) < 9 := by omega
  have HA8 := Lib.hid (show 0 ≤ (a : Int) ∧ (a : Int) ≤ 8 by omega)
  have HB8 := Lib.hid (show 0 ≤ (b : Int) ∧ (b : Int) ≤ 8 by omega)
  clear hv
  go_enter Try.func57, Try.ntmps57
  go_wp2_with fail
  refine (l25Steps_any A n c xs b day _ hn hA HV.out hbb).mono ?_
  rintro e w1 ⟨D, rfl, hD, hd⟩
  have HD := Lib.hid hD
  have HR := Lib.hid hd
  have h9 := hD.size
  obtain ⟨da, hda⟩ : ∃ d, D[a]? = some d := ⟨D[a], List.getElem?_eq_getElem (by omega)⟩
  have ca := own_cell1 hd.1 hda
  have hdaV := dAt_get hda
  have hbd := hD.bd a ha0 (by omega)
  rw [hdaV] at hbd
  have hgw := (hd.1.lt w.heap.size rfl).2
  by_cases h99 : 99 ≤ da
  · have HE := Lib.hid (chV_none (adj := adjT xs day) (a := a) (b := b) (by
      intro hr
      have := (hD.reach HA8.out).1 (hr.sym HG.out)
      rw [hdaV] at this; omega))
    clear hD hd hda hdaV
    go_wp2
    go_ret
    refine ⟨.slice (some ⟨w1.heap.size, 0, none⟩) 0 0, rfl, ?_, HR.out.2.alloc HR.out.2.size _⟩
    rw [HE.out]
    exact own_empty _ _ _ _ HR.out.2.size
  · have HL9 := Lib.hid (show dAt D a < 99 by rw [hdaV]; omega)
    have HS := Lib.hid (Gre.start (adj := adjT xs day) hD HA8.out)
    have HO := Lib.hid (World.ownsRow_lit (e := 3) (size := 1) w1 #[.int .i64 a] 1 hd.2.size (by unfold maxLen; omega) (by simp))
    have HR1 := Lib.hid (fun o => hd.below ((Below.refl _ _).alloc (Nat.le_refl _) o))
    clear hD hd hda hdaV
    go_wp2_with fail
    go_loopw [1, 10, 11, 12] (fun p out _ _ wr => ∃ (V : Value) (X : List Int) (m : Nat), V = out ∧ m < 9 ∧ hd X = m ∧ p = .int .i64 m ∧ Gre (adjT xs day) a b D X ∧ DRow w 3 D wr ∧ wr.ownsRow w.heap.size 3 1 V X.length (cells1 X.reverse) ∧ V.ownBlock ≠ some w.heap.size) (fun p _ _ _ _ => (dAt D (intOf p)).toNat)
    case atStart => exact ⟨_, [(a : Int)], a, rfl, by omega, rfl, rfl, HS.out, HR1.out _, HO.out, by simp [Value.ownBlock]; omega⟩
    case round =>
      obtain ⟨V, X, m, rfl, hm9, hm, rfl, hg, hd, ho, hne⟩ := hrel
      have HX := Lib.hid hm
      have HGr := Lib.hid hg
      have HR := Lib.hid hd
      have HO := Lib.hid ho
      have HNE := Lib.hid hne
      clear ca hgw
      by_cases hmb : m = b
      · have HBest := Lib.hid (chV_best (hg.best HD.out HG.out HA8.out HB8.out (by rw [hm, hmb])))
        subst hmb
        clear hm hg hd ho hne
        go_wp2
        go_ret
        refine ⟨_, rfl, ?_, HR.out.2⟩
        rw [HBest.out, List.length_reverse]
        exact HO.out
      · have h1 : ((m : Int) != (b : Int)) = true := by simp; omega
        obtain ⟨nx, hnx, hdx⟩ := hg.exists_next HD.out HG.out HL9.out (by rw [hm]; omega) HB8.out
        rw [hm] at hnx hdx
        have HNX := Lib.hid (And.intro hnx hdx)
        obtain ⟨dm, hdm⟩ : ∃ d, D[m]? = some d := ⟨D[m], List.getElem?_eq_getElem (by omega)⟩
        have HDM := Lib.hid (dAt_get hdm)
        have HDMg := Lib.hid hdm
        have hbm := HD.out.bd m (by omega) (by omega)
        rw [HDM.out] at hbm
        have hxl : X.length ≤ 99 := by have := hg.len; have := HL9.out; have := (HD.out.bd a ha0 (by omega)); have := hg.len; rw [hm, HDM.out] at this; omega
        have hgw := (hd.1.lt w.heap.size rfl).2
        have hmi : (m : Int) < 9 := by omega
        clear hm hg hnx hdx hdm hmb ho hne
        go_wp2_with fail
        refine (l25Partners_any A n c xs m day _ hn (hA.below hd.2) (by omega)).mono ?_
        rintro e w2 ⟨vn, rfl, on, b2⟩
        obtain ⟨An, cn, rfl⟩ := own_form on
        obtain ⟨L, hL⟩ : ∃ L, L = (nbL xs day m).length := ⟨_, rfl⟩
        rw [← hL] at on
        rw [← hL]
        have HLL := Lib.hid hL
        have HON := Lib.hid on
        have HR2 := Lib.hid (HR.out.below b2)
        have HO2 := Lib.hid (own_below HO.out b2)
        have hs2 := b2.size
        have hl9 : L ≤ 9 := by have := nbL_len xs day m; omega
        clear hd on hL
        go_wp2_with fail
        go_loopw [1, 10, 12] (fun p o i wr' => ∃ (j : Nat), j ≤ L ∧ i = .int .i64 j ∧ p = .int .i64 m ∧ o = V ∧ (∀ (i : Nat) (v : Int), i < j → (nbL xs day m)[i]? = some v → dAt D v ≠ dm - 1) ∧ Below w2.heap.size w2 wr') (fun _ _ i _ => L - (intOf i).toNat)
        case atStart => exact ⟨0, by omega, rfl, rfl, rfl, fun i v hi => by omega, Below.refl _ _⟩
        case round =>
          obtain ⟨j, hj, rfl, rfl, rfl, hno, hb⟩ := hrel
          have HNO := Lib.hid hno
          clear hno
          by_cases hlt : j < L
          · obtain ⟨v, hv⟩ : ∃ v, (nbL xs day m)[j]? = some v := ⟨(nbL xs day m)[j]'(by have := HLL.out; omega), List.getElem?_eq_getElem (by have := HLL.out; omega)⟩
            obtain ⟨hadj, v0, v8⟩ := nbL_get hv
            obtain ⟨q, rfl⟩ := Int.eq_ofNat_of_zero_le v0
            have hq9i : (q : Int) < 9 := by omega
            obtain ⟨dq, hdq⟩ : ∃ d, D[q]? = some d := ⟨D[q]'(by omega), List.getElem?_eq_getElem (by omega)⟩
            have HDQ := Lib.hid (dAt_get hdq)
            have hbq := HD.out.bd q (by omega) (by omega)
            rw [HDQ.out] at hbq
            have HR3 := Lib.hid (HR2.out.below hb)
            have cm := own_cell1 HR3.out.1 HDMg.out
            have cq := own_cell1 HR3.out.1 hdq
            obtain ⟨gn, o, hAe, hgn, ci⟩ := (Rd.of_own (own_below HON.out hb)).at1 hv
            have HADJ := Lib.hid hadj
            have HCI := Lib.hid ci
            have HVQ := Lib.hid hv
            have hgw3 : w.heap.size < wr.heap.size := by have := hb.size; omega
            have hw := IntWalk.i64_in (dm - 1) (by omega)
            subst hAe
            clear hadj hdq hv
            by_cases he : dq = dm - 1
            · have h2 : (dq == dm - 1) = true := by simp [he]
              have HE := Lib.hid he
              clear he
              go_wp2_with fail
              refine wp_region_lat wr.heap.size (by kernel_rfl) (by kernel_rfl) ?_
              have LC := fun (u : Lat wr.heap.size wr) => u.cell
              repeat (go_big_quiet_step (fail))
              refine wpQuiet_nil ?_
              intro w3 b3
              clear LC cm cq ci
              have HB3 := Lib.hid (hb.trans (b3.mono hb.size))
              have HO3 := Lib.hid (own_below HO2.out HB3.out)
              have HR4 := Lib.hid (HR2.out.below HB3.out)
              have ci := (b3.cell (p := ⟨gn, o + j, none⟩) hgn).trans HCI.out
              have HO4 := Lib.hid (fun o => HO3.out.alloc o)
              have HB4 := Lib.hid (fun o => HR4.out.2.alloc HR4.out.2.size o)
              have hs3 := HB3.out.size
              have HST := Lib.hid (HGr.out.step HD.out HG.out HL9.out (n := (q : Int)) (by rw [HX.out]; exact HADJ.out) (by rw [HX.out, HDM.out, HDQ.out]; exact HE.out) (fun v h1 h2 => by
                rw [HX.out] at h1 h2
                rw [HDM.out] at h2
                obtain ⟨i, hi⟩ := List.mem_iff_getElem?.1 ((mem_nbL HV.out).2 h1)
                rcases Nat.lt_or_ge i j with h | h
                · exact absurd h2 (HNO.out i v h hi)
                · exact nbL_mono h HVQ.out hi))
              go_wp2_with (at_builtin; go_must (refine wpList_app _ rfl (.tmp 55) (.tmp 57) 36 rfl w.heap.size 3 _ 1 8 Try.underlying36 infoI rfl (by omega) _ _ _ rfl (HO4.out _) _ 1 1 [.int .i64 q] rfl rfl (rd_new #[.int .i64 q] 3 (by simp)) (oneCell_ints [(q : Int)]) (by unfold maxLen; omega) (by omega) (by simp; omega) ?_); intro v' w' o' g' d')
              have HD' := Lib.hid (show DRow w 3 D w' from ⟨(HR4.out.1.alloc _).kept g' (.inr (fun e => HNE.out e.symm)), (HB4.out _).trans (below_app (HO4.out _) g' (HB4.out _).size (Nat.le_refl _))⟩)
              have HN' := Lib.hid (show v'.ownBlock ≠ some w.heap.size from (by
                rcases d' with d' | d'
                · rw [d']; exact HNE.out
                · rw [d']; intro e; injection e with e; simp at e; omega))
              have HOW := Lib.hid (show w'.ownsRow w.heap.size 3 1 v' ((q : Int) :: X).length (cells1 ((q : Int) :: X).reverse) from (by
                rw [List.reverse_cons, cells1_append]; exact o'))
              go_roundw
              case rel => exact ⟨_, (q : Int) :: X, q, rfl, by omega, rfl, rfl, HST.out, HD'.out, HOW.out, HN'.out⟩
              case measure => simp [intOf, HDQ.out, HDM.out]; have := HE.out; omega
            · have h2 : (dq == dm - 1) = false := by simp [he]
              have HE := Lib.hid he
              clear he
              go_wp2_with fail
              refine wp_region_lat wr.heap.size (by kernel_rfl) (by kernel_rfl) ?_
              have LC := fun (u : Lat wr.heap.size wr) => u.cell
              repeat (go_big_quiet_step (fail))
              refine wpQuiet_nil ?_
              intro w3 b3
              clear LC
              go_wp2
              go_roundw
              case rel =>
                refine ⟨j + 1, by omega, by go_num, rfl, rfl, fun i u hi hu => ?_, hb.trans (b3.mono hb.size)⟩
                rcases Nat.lt_or_ge i j with h | h
                · exact HNO.out i u h hu
                · obtain rfl : i = j := by omega
                  rw [HVQ.out] at hu; injection hu with hu; subst hu; rw [HDQ.out]; exact HE.out
              case measure => simp [intOf]; omega
          · exfalso
            obtain ⟨h1, h2⟩ := HNX.out
            obtain ⟨i, hi⟩ := List.mem_iff_getElem?.1 ((mem_nbL HV.out).2 h1)
            have hil := (List.getElem?_eq_some_iff.1 hi).1
            have := HLL.out
            exact HNO.out i nx (by omega) hi (by rw [h2, HDM.out])
end Go.Proofs.Ytpmklcpplpnlhaa
