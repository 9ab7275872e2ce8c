/- The law FnTreaties returns true for every input: partners have a treaty in force, groups hold all posts, an ended treaty leaves a valid list and a signed one is in force on its first day; no condition but the card's own: the listed tables of the library hold what their text lays. -/
import Derived.Test.YtnaehlglpaadhaaDoorTrtX
import Derived.Test.YtnaehlglpaadhaaDoorTrtW
import Derived.Test.YtnaehlglpaadhaaDoorTrtE
import Derived.Test.YtnaehlglpaadhaaDoorTrtP
import Derived.Test.YtnaehlglpaadhaaDoorTreC
import Derived.Test.YtnaehlglpaadhaaDoorTreP
import Derived.Test.YtnaehlglpaadhaaDoorGrpI
import Derived.Test.YtnaehlglpaadhaaDoorTTreB
import Derived.Test.YtnaehlglpaadhaaDoorDLaidT
namespace Go.Proofs.YtnaehlglpaadhaaDoor.ltFnTreaties
set_option linter.unusedSimpArgs false
open Go.ChangeShapes Go.WideShapes Go.ChangeAt Go.RowKit
set_option linter.unusedVariables false

set_option maxRecDepth 20000 in
set_option maxHeartbeats 16000000 in
theorem walk (B : Option Addr) (n c : Nat) (zs : List Int) (w : World) (hn : zs.length = n) (hB : Rd w B (cellsU zs)) (hm : n ≤ maxLen) (hb : ∀ z ∈ zs, 0 ≤ z ∧ z ≤ 255)
    (ht : ∀ w', Below w.heap.size w w' → Lib.TabIs Tryd.prog w' "internal/strconv.uint64pow10" .u64 Lib.pow10Tab) :
    Calls Tryd.prog 3 #[.slice B n c] w (Ret (.bool true) w) := by
  have HT := Lib.hid ht
  clear ht
  have CB := Lib.hid (fun w => vBig_any B n c w hm)
  by_cases hbig : (65536 : Int) < n
  · rw [show decide ((65536 : Int) < n) = true by simp; omega] at CB
    clear hbig hn
    go_enter Tryd.func3, Tryd.ntmps3
    go_wp2_with fail
    refine (CB.out _).mono ?_
    rintro e w1 ⟨rfl, rfl⟩
    go_wp2
    go_ret
    exact ⟨rfl, Below.refl _ _⟩
  rw [show decide ((65536 : Int) < n) = false by simp; omega] at CB
  have HY : Hid (Bytes w B zs) := Lib.hid ⟨hB, hb, by omega⟩
  have HN := Lib.hid hn
  clear hbig hn hB hm hb
  have D1 := Lib.hid (fun w h => drawPartnersOf_any B n c zs w HN.out h)
  have D2 := Lib.hid (fun w h => drawPostGroups_any B n c zs w HN.out h)
  have D3 := Lib.hid (fun w h => drawEndTreaty_any B n c zs w HN.out h)
  have D4 := Lib.hid (fun w h => drawSignTreaty_any B n c zs w HN.out h)
  have D5 := Lib.hid (fun w h => drawInForce_any B n c zs w HN.out h)
  have D6 := Lib.hid (fun w h => drawTreatyText_any B n c zs w HN.out h)
  go_enter Tryd.func3, Tryd.ntmps3
  go_wp2_with fail
  refine (CB.out _).mono ?_
  rintro e w0 ⟨rfl, rfl⟩
  have HB0 := Lib.hid (Below.refl w.heap.size w)
  go_wp2_with fail
  refine (D1.out _ (HY.out)).mono ?_
  rintro e w1 ⟨v1, xs, post, day, rfl, hl, b⟩
  have Bw1 := Lib.hid (HB0.out.trans (b.mono HB0.out.size))
  obtain ⟨A1, c1, rfl, r1, h1, h1m⟩ := hl.form
  have hx := hl.len
  have HR1 := Lib.hid r1
  clear r1 hl b h1 h1m
  obtain ⟨ok, h_ok⟩ : ∃ ok, ok = paB xs post day := ⟨_, rfl⟩
  have HOK := Lib.hid h_ok
  clear h_ok
  obtain ⟨L, h_L⟩ : ∃ L, L = paV xs post day := ⟨_, rfl⟩
  have HL := Lib.hid h_L
  clear h_L
  have hL9 : L.length ≤ 9 := by rw [HL.out]; exact pa_len _ _ _
  go_wp2_with fail
  refine (implPartnersOf_any A1 xs.length c1 xs post day _ rfl HR1.out (by omega)).mono ?_
  rintro e w2 ⟨v2, rfl, o, b⟩
  rw [← HOK.out]
  rw [← HL.out] at o
  obtain ⟨A2, c2, rfl⟩ := own_form o
  have Bw2 := Lib.hid (Bw1.out.trans (b.mono Bw1.out.size))
  have HR1' := Lib.hid (HR1.out.below b)
  clear HR1
  have HR1 := HR1'
  clear HR1'
  have HR2 := Lib.hid (Rd.of_own o)
  clear o b
  go_wp2_with fail
  refine (specPartnersOf_any A1 xs.length c1 xs post day _ rfl HR1.out (by omega)).mono ?_
  rintro e w3 ⟨v3, rfl, o, b⟩
  rw [← HOK.out]
  rw [← HL.out] at o
  obtain ⟨A3, c3, rfl⟩ := own_form o
  have Bw3 := Lib.hid (Bw2.out.trans (b.mono Bw2.out.size))
  have HR1' := Lib.hid (HR1.out.below b)
  clear HR1
  have HR1 := HR1'
  clear HR1'
  have HR2' := Lib.hid (HR2.out.below b)
  clear HR2
  have HR2 := HR2'
  clear HR2'
  have HR3 := Lib.hid (Rd.of_own o)
  clear o b
  go_wp2_with fail
  refine (vInts_same _ _ _ _ _ L _ rfl HR2.out HR3.out (by omega)).mono ?_
  rintro e w4 ⟨rfl, b⟩
  have Bw4 := Lib.hid (Bw3.out.trans (b.mono Bw3.out.size))
  have HR1' := Lib.hid (HR1.out.below b)
  clear HR1
  have HR1 := HR1'
  clear HR1'
  have HR2' := Lib.hid (HR2.out.below b)
  clear HR2
  have HR2 := HR2'
  clear HR2'
  clear b
  go_wp2_with fail
  go_loopw [10, 11, 12, 13, 14] (fun i _ _ _ _ wr => ∃ t : Nat, i = .int .i64 t ∧ t ≤ L.length ∧ Below w4.heap.size w4 wr) (fun i _ _ _ _ _ => L.length - (intOf i).toNat)
  case atStart => exact ⟨0, rfl, by omega, Below.refl _ _⟩
  case round =>
    obtain ⟨t, rfl, ht, hbw⟩ := hrel
    have HBW := Lib.hid hbw
    have hsw := hbw.size
    clear hbw
    by_cases htl : t < L.length
    · have htl' : (t : Int) < (L.length : Int) := by omega
      obtain ⟨v, ev⟩ : ∃ v, L[t]? = some v := ⟨_, List.getElem?_eq_getElem htl⟩
      obtain ⟨n1, n2, n3⟩ := near_fact (xs := xs) (u := post) (day := day) (i := t) (v := v) (by rw [← HL.out]; exact ev)
      obtain ⟨m, h_m⟩ : ∃ m, m = ifV xs post v day := ⟨_, rfl⟩
      have HM := Lib.hid h_m
      clear h_m
      rw [← HM.out] at n3
      have N1 := Lib.hid n1
      have N2 := Lib.hid n2
      have N3 := Lib.hid n3
      have hmm : (m != m) = false := by simp
      have ht0 : (0 : Int) ≤ (t : Int) := by omega
      obtain ⟨gz, oz, eAz, hgz, cz⟩ := (HR2.out.below HBW.out).at1 ev
      subst eAz
      have HRw := Lib.hid (HR1.out.below HBW.out)
      clear n1 n2 n3 ev
      go_wp2_with fail
      refine (implInForce_any A1 xs.length c1 xs post v day _ rfl HRw.out (by omega)).mono ?_
      rintro e wb ⟨rfl, b⟩
      rw [← HM.out, N1.out]
      have cz2 := (b.cell (p := ⟨gz, oz + t, none⟩) hgz).trans cz
      have HRx := Lib.hid (HRw.out.below b)
      have HBX := Lib.hid (HBW.out.trans (b.mono HBW.out.size))
      clear cz b HRw
      go_wp2_with fail
      refine (implInForce_any A1 xs.length c1 xs v post day _ rfl HRx.out (by omega)).mono ?_
      rintro e wc ⟨rfl, b⟩
      rw [N3.out, N2.out]
      have HBC := Lib.hid (HBX.out.trans (b.mono HBX.out.size))
      clear cz2 b HRx
      go_wp2
      go_roundw
      case rel => exact ⟨t + 1, by go_num, by omega, HBC.out⟩
      case measure => simp [intOf]; omega
    · obtain rfl : t = L.length := by omega
      have Bwr := Lib.hid (Bw4.out.trans (HBW.out.mono Bw4.out.size))
      go_wp2_with fail
      refine (D2.out _ (HY.out.below Bwr.out)).mono ?_
      rintro e w5 ⟨v4, ys, on, rfl, hl, b⟩
      have Bw5 := Lib.hid (Bwr.out.trans (b.mono Bwr.out.size))
      obtain ⟨A4, c4, rfl, r4, h4, h4m⟩ := hl.form
      have hy := hl.len
      have HR4 := Lib.hid r4
      clear r4 hl b h4 h4m
      obtain ⟨told, h_told⟩ : ∃ told, told = gpB ys on := ⟨_, rfl⟩
      have HTD := Lib.hid h_told
      clear h_told
      obtain ⟨G, h_G⟩ : ∃ G, G = gpV ys on := ⟨_, rfl⟩
      have HG := Lib.hid h_G
      clear h_G
      have hG9 : G.length ≤ 9 := by rw [HG.out]; exact gp_len _ _
      have HGI : Hid (∀ x ∈ G, x.length ≤ 9) := Lib.hid (by rw [HG.out]; exact gp_in)
      go_wp2_with fail
      refine (implPostGroups_any A4 ys.length c4 ys on _ rfl HR4.out (by omega)).mono ?_
      rintro e w6 ⟨v5, vs5, rfl, o, b⟩
      rw [← HTD.out]
      rw [← HG.out] at o
      obtain ⟨A5, c5, rfl⟩ := own_form o.2.1
      have Bw6 := Lib.hid (Bw5.out.trans (b.mono Bw5.out.size))
      have HR4' := Lib.hid (HR4.out.below b)
      clear HR4
      have HR4 := HR4'
      clear HR4'
      have HR5 := Lib.hid o.rd
      clear o b
      go_wp2_with fail
      refine (specPostGroups_any A4 ys.length c4 ys on _ rfl HR4.out (by omega)).mono ?_
      rintro e w7 ⟨v6, vs6, rfl, o, b⟩
      rw [← HTD.out]
      rw [← HG.out] at o
      obtain ⟨A6, c6, rfl⟩ := own_form o.2.1
      have Bw7 := Lib.hid (Bw6.out.trans (b.mono Bw6.out.size))
      have HR4' := Lib.hid (HR4.out.below b)
      clear HR4
      have HR4 := HR4'
      clear HR4'
      have HR5' := Lib.hid (HR5.out.below b)
      clear HR5
      have HR5 := HR5'
      clear HR5'
      have HR6 := Lib.hid o.rd
      clear o b
      go_wp2_with fail
      refine (vGrid_same _ _ _ _ _ G _ rfl HR5.out HR6.out (by omega) (fun x hx => by have := HGI.out x hx; omega)).mono ?_
      rintro e w8 ⟨rfl, b⟩
      have Bw8 := Lib.hid (Bw7.out.trans (b.mono Bw7.out.size))
      have HR5' := Lib.hid (HR5.out.below b)
      clear HR5
      have HR5 := HR5'
      clear HR5'
      clear b
      cases told with
      | false =>
        go_wp2_with fail
        refine (D3.out _ (HY.out.below Bw8.out)).mono ?_
        rintro e w9 ⟨v7, us, idx, last, rfl, hl, b⟩
        have Bw9 := Lib.hid (Bw8.out.trans (b.mono Bw8.out.size))
        obtain ⟨A7, c7, rfl, r7, h7, h7m⟩ := hl.form
        have hu := hl.len
        have HR7 := Lib.hid r7
        clear r7 hl b h7 h7m
        obtain ⟨fine, h_fine⟩ : ∃ fine, fine = endB us idx last := ⟨_, rfl⟩
        have HFI := Lib.hid h_fine
        clear h_fine
        obtain ⟨E, h_E⟩ : ∃ E, E = endV us idx last := ⟨_, rfl⟩
        have HE := Lib.hid h_E
        clear h_E
        have hE : E.length ≤ 20 := by rw [HE.out]; exact end_len
        go_wp2_with fail
        refine (implEndTreaty_any A7 us.length c7 us idx last _ rfl HR7.out (by omega)).mono ?_
        rintro e w10 ⟨v8, rfl, o, b⟩
        rw [← HFI.out]
        rw [← HE.out] at o
        obtain ⟨A8, c8, rfl⟩ := own_form o
        have Bw10 := Lib.hid (Bw9.out.trans (b.mono Bw9.out.size))
        have HR7' := Lib.hid (HR7.out.below b)
        clear HR7
        have HR7 := HR7'
        clear HR7'
        have HR8 := Lib.hid (Rd.of_own o)
        clear o b
        go_wp2_with fail
        refine (specEndTreaty_any A7 us.length c7 us idx last _ rfl HR7.out (by omega)).mono ?_
        rintro e w11 ⟨v9, rfl, o, b⟩
        rw [← HFI.out]
        rw [← HE.out] at o
        obtain ⟨A9, c9, rfl⟩ := own_form o
        have Bw11 := Lib.hid (Bw10.out.trans (b.mono Bw10.out.size))
        have HR7' := Lib.hid (HR7.out.below b)
        clear HR7
        have HR7 := HR7'
        clear HR7'
        have HR8' := Lib.hid (HR8.out.below b)
        clear HR8
        have HR8 := HR8'
        clear HR8'
        have HR9 := Lib.hid (Rd.of_own o)
        clear o b
        go_wp2_with fail
        refine (vTreaties_same _ _ _ _ _ E _ rfl HR8.out HR9.out (by omega)).mono ?_
        rintro e w12 ⟨rfl, b⟩
        have Bw12 := Lib.hid (Bw11.out.trans (b.mono Bw11.out.size))
        have HR8' := Lib.hid (HR8.out.below b)
        clear HR8
        have HR8 := HR8'
        clear HR8'
        clear b
        cases fine with
        | false =>
          go_wp2_with fail
          refine (D4.out _ (HY.out.below Bw12.out)).mono ?_
          rintro e w13 ⟨v10, qs, x4, rfl, hl, b⟩
          have Bw13 := Lib.hid (Bw12.out.trans (b.mono Bw12.out.size))
          obtain ⟨A10, c10, rfl, r10, h10, h10m⟩ := hl.form
          have hq := hl.len
          have HR10 := Lib.hid r10
          clear r10 hl b
          obtain ⟨kn, h_kn⟩ : ∃ kn, kn = sgB qs x4 := ⟨_, rfl⟩
          have HKN := Lib.hid h_kn
          clear h_kn
          obtain ⟨S, h_S⟩ : ∃ S, S = sgV qs x4 := ⟨_, rfl⟩
          have HSV := Lib.hid h_S
          clear h_S
          have hS : S.length ≤ 20 := by rw [HSV.out]; exact sg_len _ _
          go_wp2_with fail
          obtain ⟨wx, hwx⟩ : ∃ wx, wx = (w13.alloc (.cells #[.int .i64 x4.a, .int .i64 x4.b, .int .i64 x4.c, .int .i64 x4.d, .int .i64 x4.e] 44)) := ⟨_, rfl⟩
          have KX : Hid (Blk wx w13.heap.size [.int .i64 x4.a, .int .i64 x4.b, .int .i64 x4.c, .int .i64 x4.d, .int .i64 x4.e]) := Lib.hid (by rw [hwx]; exact Blk.new w13 _ _)
          have bx : Below w13.heap.size w13 wx := by rw [hwx]; exact (Below.refl _ _).alloc (Nat.le_refl _) _
          rw [← hwx]
          clear hwx
          have Bwx := Lib.hid (Bw13.out.trans (bx.mono Bw13.out.size))
          have HR10' := Lib.hid (HR10.out.below bx)
          clear HR10
          have HR10 := HR10'
          clear HR10'
          clear bx
          refine (implSignTreaty_any A10 qs.length c10 qs x4 _ rfl HR10.out (by omega)).mono ?_
          rintro e w14 ⟨v11, rfl, o, b⟩
          rw [← HKN.out]
          rw [← HSV.out] at o
          obtain ⟨A11, c11, rfl⟩ := own_form o
          have Bw14 := Lib.hid (Bwx.out.trans (b.mono Bwx.out.size))
          have HR10' := Lib.hid (HR10.out.below b)
          clear HR10
          have HR10 := HR10'
          clear HR10'
          have KX' := Lib.hid (KX.out.below b KX.out.lt)
          clear KX
          have KX := KX'
          clear KX'
          have HR11 := Lib.hid (Rd.of_own o)
          clear o b
          have y0 := KX.out.cell 0 _ rfl
          have y1 := KX.out.cell 1 _ rfl
          have y2 := KX.out.cell 2 _ rfl
          have y3 := KX.out.cell 3 _ rfl
          have y4 := KX.out.cell 4 _ rfl
          go_wp2_with fail
          clear y0 y1 y2 y3 y4
          refine (specSignTreaty_any A10 qs.length c10 qs x4 _ rfl HR10.out (by omega) h10 h10m).mono ?_
          rintro e w15 ⟨v12, rfl, o, b⟩
          rw [← HKN.out]
          rw [← HSV.out] at o
          obtain ⟨A12, c12, rfl⟩ := own_form o
          have Bw15 := Lib.hid (Bw14.out.trans (b.mono Bw14.out.size))
          have HR10' := Lib.hid (HR10.out.below b)
          clear HR10
          have HR10 := HR10'
          clear HR10'
          have HR11' := Lib.hid (HR11.out.below b)
          clear HR11
          have HR11 := HR11'
          clear HR11'
          have KX' := Lib.hid (KX.out.below b KX.out.lt)
          clear KX
          have KX := KX'
          clear KX'
          have HR12 := Lib.hid (Rd.of_own o)
          clear o b
          have y0 := KX.out.cell 0 _ rfl
          have y1 := KX.out.cell 1 _ rfl
          have y2 := KX.out.cell 2 _ rfl
          have y3 := KX.out.cell 3 _ rfl
          have y4 := KX.out.cell 4 _ rfl
          go_wp2_with fail
          clear y0 y1 y2 y3 y4
          refine (vTreaties_same _ _ _ _ _ S _ rfl HR11.out HR12.out (by omega)).mono ?_
          rintro e w16 ⟨rfl, b⟩
          have Bw16 := Lib.hid (Bw15.out.trans (b.mono Bw15.out.size))
          have HR11' := Lib.hid (HR11.out.below b)
          clear HR11
          have HR11 := HR11'
          clear HR11'
          have KX' := Lib.hid (KX.out.below b KX.out.lt)
          clear KX
          have KX := KX'
          clear KX'
          clear b
          cases kn with
          | false =>
            clear KX
            go_wp2_with fail
            refine (D5.out _ (HY.out.below Bw16.out)).mono ?_
            rintro e w17 ⟨v13, ps, a, b5, on5, rfl, hl, b⟩
            have Bw17 := Lib.hid (Bw16.out.trans (b.mono Bw16.out.size))
            obtain ⟨A13, c13, rfl, r13, h13, h13m⟩ := hl.form
            have hp5 := hl.len
            have HR13 := Lib.hid r13
            clear r13 hl b h13 h13m
            obtain ⟨k5, h_k5⟩ : ∃ k5, k5 = ifV ps a b5 on5 := ⟨_, rfl⟩
            have HK5 := Lib.hid h_k5
            clear h_k5
            obtain ⟨so, h_so⟩ : ∃ so, so = ifB ps a b5 on5 := ⟨_, rfl⟩
            have HSO := Lib.hid h_so
            clear h_so
            have hkk : (k5 != k5) = false := by simp
            go_wp2_with fail
            refine (implInForce_any A13 ps.length c13 ps a b5 on5 _ rfl HR13.out (by omega)).mono ?_
            rintro e w18 ⟨rfl, b⟩
            rw [← HK5.out, ← HSO.out]
            have Bw18 := Lib.hid (Bw17.out.trans (b.mono Bw17.out.size))
            have HR13' := Lib.hid (HR13.out.below b)
            clear HR13
            have HR13 := HR13'
            clear HR13'
            clear b
            go_wp2_with fail
            refine (specInForce_any A13 ps.length c13 ps a b5 on5 _ rfl HR13.out (by omega)).mono ?_
            rintro e w19 ⟨rfl, b⟩
            rw [← HK5.out, ← HSO.out]
            have Bw19 := Lib.hid (Bw18.out.trans (b.mono Bw18.out.size))
            clear b
            go_wp2_with fail
            refine (D6.out _ (HY.out.below Bw19.out)).mono ?_
            rintro e w20 ⟨x, rfl, b⟩
            have Bw20 := Lib.hid (Bw19.out.trans (b.mono Bw19.out.size))
            clear b
            go_wp2_with fail
            obtain ⟨wx, hwx⟩ : ∃ wx, wx = (w20.alloc (.cells #[.int .i64 x.a, .int .i64 x.b, .int .i64 x.c, .int .i64 x.d, .int .i64 x.e] 44)) := ⟨_, rfl⟩
            have KX : Hid (Blk wx w20.heap.size [.int .i64 x.a, .int .i64 x.b, .int .i64 x.c, .int .i64 x.d, .int .i64 x.e]) := Lib.hid (by rw [hwx]; exact Blk.new w20 _ _)
            have bx : Below w20.heap.size w20 wx := by rw [hwx]; exact (Below.refl _ _).alloc (Nat.le_refl _) _
            rw [← hwx]
            clear hwx
            have Bwx := Lib.hid (Bw20.out.trans (bx.mono Bw20.out.size))
            clear bx
            obtain ⟨sx, h_sx⟩ : ∃ sx, sx = ttV x := ⟨_, rfl⟩
            have HSX := Lib.hid h_sx
            clear h_sx
            obtain ⟨gd, h_gd⟩ : ∃ gd, gd = trB x := ⟨_, rfl⟩
            have HGD := Lib.hid h_gd
            clear h_gd
            refine (implTreatyText_any x _ (fun w' h => HT.out w' (Bwx.out.trans (h.mono Bwx.out.size)))).mono ?_
            rintro e w21 ⟨rfl, b⟩
            rw [← HSX.out, ← HGD.out]
            have Bw21 := Lib.hid (Bwx.out.trans (b.mono Bwx.out.size))
            have KX' := Lib.hid (KX.out.below b KX.out.lt)
            clear KX
            have KX := KX'
            clear KX'
            clear b
            have y0 := KX.out.cell 0 _ rfl
            have y1 := KX.out.cell 1 _ rfl
            have y2 := KX.out.cell 2 _ rfl
            have y3 := KX.out.cell 3 _ rfl
            have y4 := KX.out.cell 4 _ rfl
            go_wp2_with fail
            clear y0 y1 y2 y3 y4
            refine (specTreatyText_any x _).mono ?_
            rintro e w22 ⟨rfl, b⟩
            rw [← HSX.out, ← HGD.out]
            have Bw22 := Lib.hid (Bw21.out.trans (b.mono Bw21.out.size))
            clear b KX
            go_wp2
            go_ret
            exact ⟨by first | rfl | simp, Bw22.out⟩
          | true =>
            have HSF : Hid (ifB S x4.b x4.a x4.c = true) := Lib.hid (by rw [HSV.out]; exact sign_force HKN.out.symm)
            have y0 := KX.out.cell 0 _ rfl
            have y1 := KX.out.cell 1 _ rfl
            have y2 := KX.out.cell 2 _ rfl
            have y3 := KX.out.cell 3 _ rfl
            have y4 := KX.out.cell 4 _ rfl
            go_wp2_with fail
            clear y0 y1 y2 y3 y4
            refine (implInForce_any A11 S.length c11 S x4.b x4.a x4.c _ rfl HR11.out (by omega)).mono ?_
            rintro e w23 ⟨rfl, b⟩
            rw [HSF.out]
            have Bw23 := Lib.hid (Bw16.out.trans (b.mono Bw16.out.size))
            have KX' := Lib.hid (KX.out.below b KX.out.lt)
            clear KX
            have KX := KX'
            clear KX'
            clear b
            clear KX
            go_wp2_with fail
            refine (D5.out _ (HY.out.below Bw23.out)).mono ?_
            rintro e w24 ⟨v13, ps, a, b5, on5, rfl, hl, b⟩
            have Bw24 := Lib.hid (Bw23.out.trans (b.mono Bw23.out.size))
            obtain ⟨A13, c13, rfl, r13, h13, h13m⟩ := hl.form
            have hp5 := hl.len
            have HR13 := Lib.hid r13
            clear r13 hl b h13 h13m
            obtain ⟨k5, h_k5⟩ : ∃ k5, k5 = ifV ps a b5 on5 := ⟨_, rfl⟩
            have HK5 := Lib.hid h_k5
            clear h_k5
            obtain ⟨so, h_so⟩ : ∃ so, so = ifB ps a b5 on5 := ⟨_, rfl⟩
            have HSO := Lib.hid h_so
            clear h_so
            have hkk : (k5 != k5) = false := by simp
            go_wp2_with fail
            refine (implInForce_any A13 ps.length c13 ps a b5 on5 _ rfl HR13.out (by omega)).mono ?_
            rintro e w25 ⟨rfl, b⟩
            rw [← HK5.out, ← HSO.out]
            have Bw25 := Lib.hid (Bw24.out.trans (b.mono Bw24.out.size))
            have HR13' := Lib.hid (HR13.out.below b)
            clear HR13
            have HR13 := HR13'
            clear HR13'
            clear b
            go_wp2_with fail
            refine (specInForce_any A13 ps.length c13 ps a b5 on5 _ rfl HR13.out (by omega)).mono ?_
            rintro e w26 ⟨rfl, b⟩
            rw [← HK5.out, ← HSO.out]
            have Bw26 := Lib.hid (Bw25.out.trans (b.mono Bw25.out.size))
            clear b
            go_wp2_with fail
            refine (D6.out _ (HY.out.below Bw26.out)).mono ?_
            rintro e w27 ⟨x, rfl, b⟩
            have Bw27 := Lib.hid (Bw26.out.trans (b.mono Bw26.out.size))
            clear b
            go_wp2_with fail
            obtain ⟨wx, hwx⟩ : ∃ wx, wx = (w27.alloc (.cells #[.int .i64 x.a, .int .i64 x.b, .int .i64 x.c, .int .i64 x.d, .int .i64 x.e] 44)) := ⟨_, rfl⟩
            have KX : Hid (Blk wx w27.heap.size [.int .i64 x.a, .int .i64 x.b, .int .i64 x.c, .int .i64 x.d, .int .i64 x.e]) := Lib.hid (by rw [hwx]; exact Blk.new w27 _ _)
            have bx : Below w27.heap.size w27 wx := by rw [hwx]; exact (Below.refl _ _).alloc (Nat.le_refl _) _
            rw [← hwx]
            clear hwx
            have Bwx := Lib.hid (Bw27.out.trans (bx.mono Bw27.out.size))
            clear bx
            obtain ⟨sx, h_sx⟩ : ∃ sx, sx = ttV x := ⟨_, rfl⟩
            have HSX := Lib.hid h_sx
            clear h_sx
            obtain ⟨gd, h_gd⟩ : ∃ gd, gd = trB x := ⟨_, rfl⟩
            have HGD := Lib.hid h_gd
            clear h_gd
            refine (implTreatyText_any x _ (fun w' h => HT.out w' (Bwx.out.trans (h.mono Bwx.out.size)))).mono ?_
            rintro e w28 ⟨rfl, b⟩
            rw [← HSX.out, ← HGD.out]
            have Bw28 := Lib.hid (Bwx.out.trans (b.mono Bwx.out.size))
            have KX' := Lib.hid (KX.out.below b KX.out.lt)
            clear KX
            have KX := KX'
            clear KX'
            clear b
            have y0 := KX.out.cell 0 _ rfl
            have y1 := KX.out.cell 1 _ rfl
            have y2 := KX.out.cell 2 _ rfl
            have y3 := KX.out.cell 3 _ rfl
            have y4 := KX.out.cell 4 _ rfl
            go_wp2_with fail
            clear y0 y1 y2 y3 y4
            refine (specTreatyText_any x _).mono ?_
            rintro e w29 ⟨rfl, b⟩
            rw [← HSX.out, ← HGD.out]
            have Bw29 := Lib.hid (Bw28.out.trans (b.mono Bw28.out.size))
            clear b KX
            go_wp2
            go_ret
            exact ⟨by first | rfl | simp, Bw29.out⟩
        | true =>
          have HET : Hid (trL E = true) := Lib.hid (by rw [HE.out]; exact end_tr HFI.out.symm)
          go_wp2_with fail
          refine (implAreTreaties_any A8 E.length c8 E _ rfl HR8.out (by omega)).mono ?_
          rintro e w30 ⟨rfl, b⟩
          rw [HET.out]
          have Bw30 := Lib.hid (Bw12.out.trans (b.mono Bw12.out.size))
          clear b
          go_wp2_with fail
          refine (D4.out _ (HY.out.below Bw30.out)).mono ?_
          rintro e w31 ⟨v10, qs, x4, rfl, hl, b⟩
          have Bw31 := Lib.hid (Bw30.out.trans (b.mono Bw30.out.size))
          obtain ⟨A10, c10, rfl, r10, h10, h10m⟩ := hl.form
          have hq := hl.len
          have HR10 := Lib.hid r10
          clear r10 hl b
          obtain ⟨kn, h_kn⟩ : ∃ kn, kn = sgB qs x4 := ⟨_, rfl⟩
          have HKN := Lib.hid h_kn
          clear h_kn
          obtain ⟨S, h_S⟩ : ∃ S, S = sgV qs x4 := ⟨_, rfl⟩
          have HSV := Lib.hid h_S
          clear h_S
          have hS : S.length ≤ 20 := by rw [HSV.out]; exact sg_len _ _
          go_wp2_with fail
          obtain ⟨wx, hwx⟩ : ∃ wx, wx = (w31.alloc (.cells #[.int .i64 x4.a, .int .i64 x4.b, .int .i64 x4.c, .int .i64 x4.d, .int .i64 x4.e] 44)) := ⟨_, rfl⟩
          have KX : Hid (Blk wx w31.heap.size [.int .i64 x4.a, .int .i64 x4.b, .int .i64 x4.c, .int .i64 x4.d, .int .i64 x4.e]) := Lib.hid (by rw [hwx]; exact Blk.new w31 _ _)
          have bx : Below w31.heap.size w31 wx := by rw [hwx]; exact (Below.refl _ _).alloc (Nat.le_refl _) _
          rw [← hwx]
          clear hwx
          have Bwx := Lib.hid (Bw31.out.trans (bx.mono Bw31.out.size))
          have HR10' := Lib.hid (HR10.out.below bx)
          clear HR10
          have HR10 := HR10'
          clear HR10'
          clear bx
          refine (implSignTreaty_any A10 qs.length c10 qs x4 _ rfl HR10.out (by omega)).mono ?_
          rintro e w32 ⟨v11, rfl, o, b⟩
          rw [← HKN.out]
          rw [← HSV.out] at o
          obtain ⟨A11, c11, rfl⟩ := own_form o
          have Bw32 := Lib.hid (Bwx.out.trans (b.mono Bwx.out.size))
          have HR10' := Lib.hid (HR10.out.below b)
          clear HR10
          have HR10 := HR10'
          clear HR10'
          have KX' := Lib.hid (KX.out.below b KX.out.lt)
          clear KX
          have KX := KX'
          clear KX'
          have HR11 := Lib.hid (Rd.of_own o)
          clear o b
          have y0 := KX.out.cell 0 _ rfl
          have y1 := KX.out.cell 1 _ rfl
          have y2 := KX.out.cell 2 _ rfl
          have y3 := KX.out.cell 3 _ rfl
          have y4 := KX.out.cell 4 _ rfl
          go_wp2_with fail
          clear y0 y1 y2 y3 y4
          refine (specSignTreaty_any A10 qs.length c10 qs x4 _ rfl HR10.out (by omega) h10 h10m).mono ?_
          rintro e w33 ⟨v12, rfl, o, b⟩
          rw [← HKN.out]
          rw [← HSV.out] at o
          obtain ⟨A12, c12, rfl⟩ := own_form o
          have Bw33 := Lib.hid (Bw32.out.trans (b.mono Bw32.out.size))
          have HR10' := Lib.hid (HR10.out.below b)
          clear HR10
          have HR10 := HR10'
          clear HR10'
          have HR11' := Lib.hid (HR11.out.below b)
          clear HR11
          have HR11 := HR11'
          clear HR11'
          have KX' := Lib.hid (KX.out.below b KX.out.lt)
          clear KX
          have KX := KX'
          clear KX'
          have HR12 := Lib.hid (Rd.of_own o)
          clear o b
          have y0 := KX.out.cell 0 _ rfl
          have y1 := KX.out.cell 1 _ rfl
          have y2 := KX.out.cell 2 _ rfl
          have y3 := KX.out.cell 3 _ rfl
          have y4 := KX.out.cell 4 _ rfl
          go_wp2_with fail
          clear y0 y1 y2 y3 y4
          refine (vTreaties_same _ _ _ _ _ S _ rfl HR11.out HR12.out (by omega)).mono ?_
          rintro e w34 ⟨rfl, b⟩
          have Bw34 := Lib.hid (Bw33.out.trans (b.mono Bw33.out.size))
          have HR11' := Lib.hid (HR11.out.below b)
          clear HR11
          have HR11 := HR11'
          clear HR11'
          have KX' := Lib.hid (KX.out.below b KX.out.lt)
          clear KX
          have KX := KX'
          clear KX'
          clear b
          cases kn with
          | false =>
            clear KX
            go_wp2_with fail
            refine (D5.out _ (HY.out.below Bw34.out)).mono ?_
            rintro e w35 ⟨v13, ps, a, b5, on5, rfl, hl, b⟩
            have Bw35 := Lib.hid (Bw34.out.trans (b.mono Bw34.out.size))
            obtain ⟨A13, c13, rfl, r13, h13, h13m⟩ := hl.form
            have hp5 := hl.len
            have HR13 := Lib.hid r13
            clear r13 hl b h13 h13m
            obtain ⟨k5, h_k5⟩ : ∃ k5, k5 = ifV ps a b5 on5 := ⟨_, rfl⟩
            have HK5 := Lib.hid h_k5
            clear h_k5
            obtain ⟨so, h_so⟩ : ∃ so, so = ifB ps a b5 on5 := ⟨_, rfl⟩
            have HSO := Lib.hid h_so
            clear h_so
            have hkk : (k5 != k5) = false := by simp
            go_wp2_with fail
            refine (implInForce_any A13 ps.length c13 ps a b5 on5 _ rfl HR13.out (by omega)).mono ?_
            rintro e w36 ⟨rfl, b⟩
            rw [← HK5.out, ← HSO.out]
            have Bw36 := Lib.hid (Bw35.out.trans (b.mono Bw35.out.size))
            have HR13' := Lib.hid (HR13.out.below b)
            clear HR13
            have HR13 := HR13'
            clear HR13'
            clear b
            go_wp2_with fail
            refine (specInForce_any A13 ps.length c13 ps a b5 on5 _ rfl HR13.out (by omega)).mono ?_
            rintro e w37 ⟨rfl, b⟩
            rw [← HK5.out, ← HSO.out]
            have Bw37 := Lib.hid (Bw36.out.trans (b.mono Bw36.out.size))
            clear b
            go_wp2_with fail
            refine (D6.out _ (HY.out.below Bw37.out)).mono ?_
            rintro e w38 ⟨x, rfl, b⟩
            have Bw38 := Lib.hid (Bw37.out.trans (b.mono Bw37.out.size))
            clear b
            go_wp2_with fail
            obtain ⟨wx, hwx⟩ : ∃ wx, wx = (w38.alloc (.cells #[.int .i64 x.a, .int .i64 x.b, .int .i64 x.c, .int .i64 x.d, .int .i64 x.e] 44)) := ⟨_, rfl⟩
            have KX : Hid (Blk wx w38.heap.size [.int .i64 x.a, .int .i64 x.b, .int .i64 x.c, .int .i64 x.d, .int .i64 x.e]) := Lib.hid (by rw [hwx]; exact Blk.new w38 _ _)
            have bx : Below w38.heap.size w38 wx := by rw [hwx]; exact (Below.refl _ _).alloc (Nat.le_refl _) _
            rw [← hwx]
            clear hwx
            have Bwx := Lib.hid (Bw38.out.trans (bx.mono Bw38.out.size))
            clear bx
            obtain ⟨sx, h_sx⟩ : ∃ sx, sx = ttV x := ⟨_, rfl⟩
            have HSX := Lib.hid h_sx
            clear h_sx
            obtain ⟨gd, h_gd⟩ : ∃ gd, gd = trB x := ⟨_, rfl⟩
            have HGD := Lib.hid h_gd
            clear h_gd
            refine (implTreatyText_any x _ (fun w' h => HT.out w' (Bwx.out.trans (h.mono Bwx.out.size)))).mono ?_
            rintro e w39 ⟨rfl, b⟩
            rw [← HSX.out, ← HGD.out]
            have Bw39 := Lib.hid (Bwx.out.trans (b.mono Bwx.out.size))
            have KX' := Lib.hid (KX.out.below b KX.out.lt)
            clear KX
            have KX := KX'
            clear KX'
            clear b
            have y0 := KX.out.cell 0 _ rfl
            have y1 := KX.out.cell 1 _ rfl
            have y2 := KX.out.cell 2 _ rfl
            have y3 := KX.out.cell 3 _ rfl
            have y4 := KX.out.cell 4 _ rfl
            go_wp2_with fail
            clear y0 y1 y2 y3 y4
            refine (specTreatyText_any x _).mono ?_
            rintro e w40 ⟨rfl, b⟩
            rw [← HSX.out, ← HGD.out]
            have Bw40 := Lib.hid (Bw39.out.trans (b.mono Bw39.out.size))
            clear b KX
            go_wp2
            go_ret
            exact ⟨by first | rfl | simp, Bw40.out⟩
          | true =>
            have HSF : Hid (ifB S x4.b x4.a x4.c = true) := Lib.hid (by rw [HSV.out]; exact sign_force HKN.out.symm)
            have y0 := KX.out.cell 0 _ rfl
            have y1 := KX.out.cell 1 _ rfl
            have y2 := KX.out.cell 2 _ rfl
            have y3 := KX.out.cell 3 _ rfl
            have y4 := KX.out.cell 4 _ rfl
            go_wp2_with fail
            clear y0 y1 y2 y3 y4
            refine (implInForce_any A11 S.length c11 S x4.b x4.a x4.c _ rfl HR11.out (by omega)).mono ?_
            rintro e w41 ⟨rfl, b⟩
            rw [HSF.out]
            have Bw41 := Lib.hid (Bw34.out.trans (b.mono Bw34.out.size))
            have KX' := Lib.hid (KX.out.below b KX.out.lt)
            clear KX
            have KX := KX'
            clear KX'
            clear b
            clear KX
            go_wp2_with fail
            refine (D5.out _ (HY.out.below Bw41.out)).mono ?_
            rintro e w42 ⟨v13, ps, a, b5, on5, rfl, hl, b⟩
            have Bw42 := Lib.hid (Bw41.out.trans (b.mono Bw41.out.size))
            obtain ⟨A13, c13, rfl, r13, h13, h13m⟩ := hl.form
            have hp5 := hl.len
            have HR13 := Lib.hid r13
            clear r13 hl b h13 h13m
            obtain ⟨k5, h_k5⟩ : ∃ k5, k5 = ifV ps a b5 on5 := ⟨_, rfl⟩
            have HK5 := Lib.hid h_k5
            clear h_k5
            obtain ⟨so, h_so⟩ : ∃ so, so = ifB ps a b5 on5 := ⟨_, rfl⟩
            have HSO := Lib.hid h_so
            clear h_so
            have hkk : (k5 != k5) = false := by simp
            go_wp2_with fail
            refine (implInForce_any A13 ps.length c13 ps a b5 on5 _ rfl HR13.out (by omega)).mono ?_
            rintro e w43 ⟨rfl, b⟩
            rw [← HK5.out, ← HSO.out]
            have Bw43 := Lib.hid (Bw42.out.trans (b.mono Bw42.out.size))
            have HR13' := Lib.hid (HR13.out.below b)
            clear HR13
            have HR13 := HR13'
            clear HR13'
            clear b
            go_wp2_with fail
            refine (specInForce_any A13 ps.length c13 ps a b5 on5 _ rfl HR13.out (by omega)).mono ?_
            rintro e w44 ⟨rfl, b⟩
            rw [← HK5.out, ← HSO.out]
            have Bw44 := Lib.hid (Bw43.out.trans (b.mono Bw43.out.size))
            clear b
            go_wp2_with fail
            refine (D6.out _ (HY.out.below Bw44.out)).mono ?_
            rintro e w45 ⟨x, rfl, b⟩
            have Bw45 := Lib.hid (Bw44.out.trans (b.mono Bw44.out.size))
            clear b
            go_wp2_with fail
            obtain ⟨wx, hwx⟩ : ∃ wx, wx = (w45.alloc (.cells #[.int .i64 x.a, .int .i64 x.b, .int .i64 x.c, .int .i64 x.d, .int .i64 x.e] 44)) := ⟨_, rfl⟩
            have KX : Hid (Blk wx w45.heap.size [.int .i64 x.a, .int .i64 x.b, .int .i64 x.c, .int .i64 x.d, .int .i64 x.e]) := Lib.hid (by rw [hwx]; exact Blk.new w45 _ _)
            have bx : Below w45.heap.size w45 wx := by rw [hwx]; exact (Below.refl _ _).alloc (Nat.le_refl _) _
            rw [← hwx]
            clear hwx
            have Bwx := Lib.hid (Bw45.out.trans (bx.mono Bw45.out.size))
            clear bx
            obtain ⟨sx, h_sx⟩ : ∃ sx, sx = ttV x := ⟨_, rfl⟩
            have HSX := Lib.hid h_sx
            clear h_sx
            obtain ⟨gd, h_gd⟩ : ∃ gd, gd = trB x := ⟨_, rfl⟩
            have HGD := Lib.hid h_gd
            clear h_gd
            refine (implTreatyText_any x _ (fun w' h => HT.out w' (Bwx.out.trans (h.mono Bwx.out.size)))).mono ?_
            rintro e w46 ⟨rfl, b⟩
            rw [← HSX.out, ← HGD.out]
            have Bw46 := Lib.hid (Bwx.out.trans (b.mono Bwx.out.size))
            have KX' := Lib.hid (KX.out.below b KX.out.lt)
            clear KX
            have KX := KX'
            clear KX'
            clear b
            have y0 := KX.out.cell 0 _ rfl
            have y1 := KX.out.cell 1 _ rfl
            have y2 := KX.out.cell 2 _ rfl
            have y3 := KX.out.cell 3 _ rfl
            have y4 := KX.out.cell 4 _ rfl
            go_wp2_with fail
            clear y0 y1 y2 y3 y4
            refine (specTreatyText_any x _).mono ?_
            rintro e w47 ⟨rfl, b⟩
            rw [← HSX.out, ← HGD.out]
            have Bw47 := Lib.hid (Bw46.out.trans (b.mono Bw46.out.size))
            clear b KX
            go_wp2
            go_ret
            exact ⟨by first | rfl | simp, Bw47.out⟩
      | true =>
        have hs9 : szG G = 9 := by rw [HG.out]; exact gp_sum HTD.out.symm
        go_wp2_with fail
        go_loopw [21, 22] (fun s i wr => ∃ t : Nat, i = .int .i64 t ∧ t ≤ G.length ∧ s = .int .i64 (szG (G.take t) : Nat) ∧ w8 = wr) (fun _ i _ => G.length - (intOf i).toNat)
        case atStart => exact ⟨0, rfl, by omega, by simp [szG], rfl⟩
        case round =>
          obtain ⟨t, rfl, ht, rfl, rfl⟩ := hrel
          have hle := szG_take_le G t
          by_cases htl : t < G.length
          · have htl' : (t : Int) < (G.length : Int) := by omega
            obtain ⟨x, ex⟩ : ∃ x, G[t]? = some x := ⟨_, List.getElem?_eq_getElem htl⟩
            have ht0 : (0 : Int) ≤ (t : Int) := by omega
            obtain ⟨gz, oz, Bz, cz0, eAz, hgz, cz, -, -, -⟩ := HR5.out.at ex
            subst eAz
            have HSB := Lib.hid (szG_take ex)
            have hsb := szG_take_lt ex
            clear ex
            go_wp2
            go_roundw
            case rel => exact ⟨t + 1, by go_num, by omega, by rw [HSB.out]; go_num, by first | rfl | trivial⟩
            case measure => simp [intOf]; omega
          · obtain rfl : t = G.length := by omega
            have hs9b : szG (G.take G.length) = 9 := by rw [List.take_length]; exact hs9
            rw [hs9b]
            go_wp2_with fail
            refine (D3.out _ (HY.out.below Bw8.out)).mono ?_
            rintro e w48 ⟨v7, us, idx, last, rfl, hl, b⟩
            have Bw48 := Lib.hid (Bw8.out.trans (b.mono Bw8.out.size))
            obtain ⟨A7, c7, rfl, r7, h7, h7m⟩ := hl.form
            have hu := hl.len
            have HR7 := Lib.hid r7
            clear r7 hl b h7 h7m
            obtain ⟨fine, h_fine⟩ : ∃ fine, fine = endB us idx last := ⟨_, rfl⟩
            have HFI := Lib.hid h_fine
            clear h_fine
            obtain ⟨E, h_E⟩ : ∃ E, E = endV us idx last := ⟨_, rfl⟩
            have HE := Lib.hid h_E
            clear h_E
            have hE : E.length ≤ 20 := by rw [HE.out]; exact end_len
            go_wp2_with fail
            refine (implEndTreaty_any A7 us.length c7 us idx last _ rfl HR7.out (by omega)).mono ?_
            rintro e w49 ⟨v8, rfl, o, b⟩
            rw [← HFI.out]
            rw [← HE.out] at o
            obtain ⟨A8, c8, rfl⟩ := own_form o
            have Bw49 := Lib.hid (Bw48.out.trans (b.mono Bw48.out.size))
            have HR7' := Lib.hid (HR7.out.below b)
            clear HR7
            have HR7 := HR7'
            clear HR7'
            have HR8 := Lib.hid (Rd.of_own o)
            clear o b
            go_wp2_with fail
            refine (specEndTreaty_any A7 us.length c7 us idx last _ rfl HR7.out (by omega)).mono ?_
            rintro e w50 ⟨v9, rfl, o, b⟩
            rw [← HFI.out]
            rw [← HE.out] at o
            obtain ⟨A9, c9, rfl⟩ := own_form o
            have Bw50 := Lib.hid (Bw49.out.trans (b.mono Bw49.out.size))
            have HR7' := Lib.hid (HR7.out.below b)
            clear HR7
            have HR7 := HR7'
            clear HR7'
            have HR8' := Lib.hid (HR8.out.below b)
            clear HR8
            have HR8 := HR8'
            clear HR8'
            have HR9 := Lib.hid (Rd.of_own o)
            clear o b
            go_wp2_with fail
            refine (vTreaties_same _ _ _ _ _ E _ rfl HR8.out HR9.out (by omega)).mono ?_
            rintro e w51 ⟨rfl, b⟩
            have Bw51 := Lib.hid (Bw50.out.trans (b.mono Bw50.out.size))
            have HR8' := Lib.hid (HR8.out.below b)
            clear HR8
            have HR8 := HR8'
            clear HR8'
            clear b
            cases fine with
            | false =>
              go_wp2_with fail
              refine (D4.out _ (HY.out.below Bw51.out)).mono ?_
              rintro e w52 ⟨v10, qs, x4, rfl, hl, b⟩
              have Bw52 := Lib.hid (Bw51.out.trans (b.mono Bw51.out.size))
              obtain ⟨A10, c10, rfl, r10, h10, h10m⟩ := hl.form
              have hq := hl.len
              have HR10 := Lib.hid r10
              clear r10 hl b
              obtain ⟨kn, h_kn⟩ : ∃ kn, kn = sgB qs x4 := ⟨_, rfl⟩
              have HKN := Lib.hid h_kn
              clear h_kn
              obtain ⟨S, h_S⟩ : ∃ S, S = sgV qs x4 := ⟨_, rfl⟩
              have HSV := Lib.hid h_S
              clear h_S
              have hS : S.length ≤ 20 := by rw [HSV.out]; exact sg_len _ _
              go_wp2_with fail
              obtain ⟨wx, hwx⟩ : ∃ wx, wx = (w52.alloc (.cells #[.int .i64 x4.a, .int .i64 x4.b, .int .i64 x4.c, .int .i64 x4.d, .int .i64 x4.e] 44)) := ⟨_, rfl⟩
              have KX : Hid (Blk wx w52.heap.size [.int .i64 x4.a, .int .i64 x4.b, .int .i64 x4.c, .int .i64 x4.d, .int .i64 x4.e]) := Lib.hid (by rw [hwx]; exact Blk.new w52 _ _)
              have bx : Below w52.heap.size w52 wx := by rw [hwx]; exact (Below.refl _ _).alloc (Nat.le_refl _) _
              rw [← hwx]
              clear hwx
              have Bwx := Lib.hid (Bw52.out.trans (bx.mono Bw52.out.size))
              have HR10' := Lib.hid (HR10.out.below bx)
              clear HR10
              have HR10 := HR10'
              clear HR10'
              clear bx
              refine (implSignTreaty_any A10 qs.length c10 qs x4 _ rfl HR10.out (by omega)).mono ?_
              rintro e w53 ⟨v11, rfl, o, b⟩
              rw [← HKN.out]
              rw [← HSV.out] at o
              obtain ⟨A11, c11, rfl⟩ := own_form o
              have Bw53 := Lib.hid (Bwx.out.trans (b.mono Bwx.out.size))
              have HR10' := Lib.hid (HR10.out.below b)
              clear HR10
              have HR10 := HR10'
              clear HR10'
              have KX' := Lib.hid (KX.out.below b KX.out.lt)
              clear KX
              have KX := KX'
              clear KX'
              have HR11 := Lib.hid (Rd.of_own o)
              clear o b
              have y0 := KX.out.cell 0 _ rfl
              have y1 := KX.out.cell 1 _ rfl
              have y2 := KX.out.cell 2 _ rfl
              have y3 := KX.out.cell 3 _ rfl
              have y4 := KX.out.cell 4 _ rfl
              go_wp2_with fail
              clear y0 y1 y2 y3 y4
              refine (specSignTreaty_any A10 qs.length c10 qs x4 _ rfl HR10.out (by omega) h10 h10m).mono ?_
              rintro e w54 ⟨v12, rfl, o, b⟩
              rw [← HKN.out]
              rw [← HSV.out] at o
              obtain ⟨A12, c12, rfl⟩ := own_form o
              have Bw54 := Lib.hid (Bw53.out.trans (b.mono Bw53.out.size))
              have HR10' := Lib.hid (HR10.out.below b)
              clear HR10
              have HR10 := HR10'
              clear HR10'
              have HR11' := Lib.hid (HR11.out.below b)
              clear HR11
              have HR11 := HR11'
              clear HR11'
              have KX' := Lib.hid (KX.out.below b KX.out.lt)
              clear KX
              have KX := KX'
              clear KX'
              have HR12 := Lib.hid (Rd.of_own o)
              clear o b
              have y0 := KX.out.cell 0 _ rfl
              have y1 := KX.out.cell 1 _ rfl
              have y2 := KX.out.cell 2 _ rfl
              have y3 := KX.out.cell 3 _ rfl
              have y4 := KX.out.cell 4 _ rfl
              go_wp2_with fail
              clear y0 y1 y2 y3 y4
              refine (vTreaties_same _ _ _ _ _ S _ rfl HR11.out HR12.out (by omega)).mono ?_
              rintro e w55 ⟨rfl, b⟩
              have Bw55 := Lib.hid (Bw54.out.trans (b.mono Bw54.out.size))
              have HR11' := Lib.hid (HR11.out.below b)
              clear HR11
              have HR11 := HR11'
              clear HR11'
              have KX' := Lib.hid (KX.out.below b KX.out.lt)
              clear KX
              have KX := KX'
              clear KX'
              clear b
              cases kn with
              | false =>
                clear KX
                go_wp2_with fail
                refine (D5.out _ (HY.out.below Bw55.out)).mono ?_
                rintro e w56 ⟨v13, ps, a, b5, on5, rfl, hl, b⟩
                have Bw56 := Lib.hid (Bw55.out.trans (b.mono Bw55.out.size))
                obtain ⟨A13, c13, rfl, r13, h13, h13m⟩ := hl.form
                have hp5 := hl.len
                have HR13 := Lib.hid r13
                clear r13 hl b h13 h13m
                obtain ⟨k5, h_k5⟩ : ∃ k5, k5 = ifV ps a b5 on5 := ⟨_, rfl⟩
                have HK5 := Lib.hid h_k5
                clear h_k5
                obtain ⟨so, h_so⟩ : ∃ so, so = ifB ps a b5 on5 := ⟨_, rfl⟩
                have HSO := Lib.hid h_so
                clear h_so
                have hkk : (k5 != k5) = false := by simp
                go_wp2_with fail
                refine (implInForce_any A13 ps.length c13 ps a b5 on5 _ rfl HR13.out (by omega)).mono ?_
                rintro e w57 ⟨rfl, b⟩
                rw [← HK5.out, ← HSO.out]
                have Bw57 := Lib.hid (Bw56.out.trans (b.mono Bw56.out.size))
                have HR13' := Lib.hid (HR13.out.below b)
                clear HR13
                have HR13 := HR13'
                clear HR13'
                clear b
                go_wp2_with fail
                refine (specInForce_any A13 ps.length c13 ps a b5 on5 _ rfl HR13.out (by omega)).mono ?_
                rintro e w58 ⟨rfl, b⟩
                rw [← HK5.out, ← HSO.out]
                have Bw58 := Lib.hid (Bw57.out.trans (b.mono Bw57.out.size))
                clear b
                go_wp2_with fail
                refine (D6.out _ (HY.out.below Bw58.out)).mono ?_
                rintro e w59 ⟨x, rfl, b⟩
                have Bw59 := Lib.hid (Bw58.out.trans (b.mono Bw58.out.size))
                clear b
                go_wp2_with fail
                obtain ⟨wx, hwx⟩ : ∃ wx, wx = (w59.alloc (.cells #[.int .i64 x.a, .int .i64 x.b, .int .i64 x.c, .int .i64 x.d, .int .i64 x.e] 44)) := ⟨_, rfl⟩
                have KX : Hid (Blk wx w59.heap.size [.int .i64 x.a, .int .i64 x.b, .int .i64 x.c, .int .i64 x.d, .int .i64 x.e]) := Lib.hid (by rw [hwx]; exact Blk.new w59 _ _)
                have bx : Below w59.heap.size w59 wx := by rw [hwx]; exact (Below.refl _ _).alloc (Nat.le_refl _) _
                rw [← hwx]
                clear hwx
                have Bwx := Lib.hid (Bw59.out.trans (bx.mono Bw59.out.size))
                clear bx
                obtain ⟨sx, h_sx⟩ : ∃ sx, sx = ttV x := ⟨_, rfl⟩
                have HSX := Lib.hid h_sx
                clear h_sx
                obtain ⟨gd, h_gd⟩ : ∃ gd, gd = trB x := ⟨_, rfl⟩
                have HGD := Lib.hid h_gd
                clear h_gd
                refine (implTreatyText_any x _ (fun w' h => HT.out w' (Bwx.out.trans (h.mono Bwx.out.size)))).mono ?_
                rintro e w60 ⟨rfl, b⟩
                rw [← HSX.out, ← HGD.out]
                have Bw60 := Lib.hid (Bwx.out.trans (b.mono Bwx.out.size))
                have KX' := Lib.hid (KX.out.below b KX.out.lt)
                clear KX
                have KX := KX'
                clear KX'
                clear b
                have y0 := KX.out.cell 0 _ rfl
                have y1 := KX.out.cell 1 _ rfl
                have y2 := KX.out.cell 2 _ rfl
                have y3 := KX.out.cell 3 _ rfl
                have y4 := KX.out.cell 4 _ rfl
                go_wp2_with fail
                clear y0 y1 y2 y3 y4
                refine (specTreatyText_any x _).mono ?_
                rintro e w61 ⟨rfl, b⟩
                rw [← HSX.out, ← HGD.out]
                have Bw61 := Lib.hid (Bw60.out.trans (b.mono Bw60.out.size))
                clear b KX
                go_wp2
                go_ret
                exact ⟨by first | rfl | simp, Bw61.out⟩
              | true =>
                have HSF : Hid (ifB S x4.b x4.a x4.c = true) := Lib.hid (by rw [HSV.out]; exact sign_force HKN.out.symm)
                have y0 := KX.out.cell 0 _ rfl
                have y1 := KX.out.cell 1 _ rfl
                have y2 := KX.out.cell 2 _ rfl
                have y3 := KX.out.cell 3 _ rfl
                have y4 := KX.out.cell 4 _ rfl
                go_wp2_with fail
                clear y0 y1 y2 y3 y4
                refine (implInForce_any A11 S.length c11 S x4.b x4.a x4.c _ rfl HR11.out (by omega)).mono ?_
                rintro e w62 ⟨rfl, b⟩
                rw [HSF.out]
                have Bw62 := Lib.hid (Bw55.out.trans (b.mono Bw55.out.size))
                have KX' := Lib.hid (KX.out.below b KX.out.lt)
                clear KX
                have KX := KX'
                clear KX'
                clear b
                clear KX
                go_wp2_with fail
                refine (D5.out _ (HY.out.below Bw62.out)).mono ?_
                rintro e w63 ⟨v13, ps, a, b5, on5, rfl, hl, b⟩
                have Bw63 := Lib.hid (Bw62.out.trans (b.mono Bw62.out.size))
                obtain ⟨A13, c13, rfl, r13, h13, h13m⟩ := hl.form
                have hp5 := hl.len
                have HR13 := Lib.hid r13
                clear r13 hl b h13 h13m
                obtain ⟨k5, h_k5⟩ : ∃ k5, k5 = ifV ps a b5 on5 := ⟨_, rfl⟩
                have HK5 := Lib.hid h_k5
                clear h_k5
                obtain ⟨so, h_so⟩ : ∃ so, so = ifB ps a b5 on5 := ⟨_, rfl⟩
                have HSO := Lib.hid h_so
                clear h_so
                have hkk : (k5 != k5) = false := by simp
                go_wp2_with fail
                refine (implInForce_any A13 ps.length c13 ps a b5 on5 _ rfl HR13.out (by omega)).mono ?_
                rintro e w64 ⟨rfl, b⟩
                rw [← HK5.out, ← HSO.out]
                have Bw64 := Lib.hid (Bw63.out.trans (b.mono Bw63.out.size))
                have HR13' := Lib.hid (HR13.out.below b)
                clear HR13
                have HR13 := HR13'
                clear HR13'
                clear b
                go_wp2_with fail
                refine (specInForce_any A13 ps.length c13 ps a b5 on5 _ rfl HR13.out (by omega)).mono ?_
                rintro e w65 ⟨rfl, b⟩
                rw [← HK5.out, ← HSO.out]
                have Bw65 := Lib.hid (Bw64.out.trans (b.mono Bw64.out.size))
                clear b
                go_wp2_with fail
                refine (D6.out _ (HY.out.below Bw65.out)).mono ?_
                rintro e w66 ⟨x, rfl, b⟩
                have Bw66 := Lib.hid (Bw65.out.trans (b.mono Bw65.out.size))
                clear b
                go_wp2_with fail
                obtain ⟨wx, hwx⟩ : ∃ wx, wx = (w66.alloc (.cells #[.int .i64 x.a, .int .i64 x.b, .int .i64 x.c, .int .i64 x.d, .int .i64 x.e] 44)) := ⟨_, rfl⟩
                have KX : Hid (Blk wx w66.heap.size [.int .i64 x.a, .int .i64 x.b, .int .i64 x.c, .int .i64 x.d, .int .i64 x.e]) := Lib.hid (by rw [hwx]; exact Blk.new w66 _ _)
                have bx : Below w66.heap.size w66 wx := by rw [hwx]; exact (Below.refl _ _).alloc (Nat.le_refl _) _
                rw [← hwx]
                clear hwx
                have Bwx := Lib.hid (Bw66.out.trans (bx.mono Bw66.out.size))
                clear bx
                obtain ⟨sx, h_sx⟩ : ∃ sx, sx = ttV x := ⟨_, rfl⟩
                have HSX := Lib.hid h_sx
                clear h_sx
                obtain ⟨gd, h_gd⟩ : ∃ gd, gd = trB x := ⟨_, rfl⟩
                have HGD := Lib.hid h_gd
                clear h_gd
                refine (implTreatyText_any x _ (fun w' h => HT.out w' (Bwx.out.trans (h.mono Bwx.out.size)))).mono ?_
                rintro e w67 ⟨rfl, b⟩
                rw [← HSX.out, ← HGD.out]
                have Bw67 := Lib.hid (Bwx.out.trans (b.mono Bwx.out.size))
                have KX' := Lib.hid (KX.out.below b KX.out.lt)
                clear KX
                have KX := KX'
                clear KX'
                clear b
                have y0 := KX.out.cell 0 _ rfl
                have y1 := KX.out.cell 1 _ rfl
                have y2 := KX.out.cell 2 _ rfl
                have y3 := KX.out.cell 3 _ rfl
                have y4 := KX.out.cell 4 _ rfl
                go_wp2_with fail
                clear y0 y1 y2 y3 y4
                refine (specTreatyText_any x _).mono ?_
                rintro e w68 ⟨rfl, b⟩
                rw [← HSX.out, ← HGD.out]
                have Bw68 := Lib.hid (Bw67.out.trans (b.mono Bw67.out.size))
                clear b KX
                go_wp2
                go_ret
                exact ⟨by first | rfl | simp, Bw68.out⟩
            | true =>
              have HET : Hid (trL E = true) := Lib.hid (by rw [HE.out]; exact end_tr HFI.out.symm)
              go_wp2_with fail
              refine (implAreTreaties_any A8 E.length c8 E _ rfl HR8.out (by omega)).mono ?_
              rintro e w69 ⟨rfl, b⟩
              rw [HET.out]
              have Bw69 := Lib.hid (Bw51.out.trans (b.mono Bw51.out.size))
              clear b
              go_wp2_with fail
              refine (D4.out _ (HY.out.below Bw69.out)).mono ?_
              rintro e w70 ⟨v10, qs, x4, rfl, hl, b⟩
              have Bw70 := Lib.hid (Bw69.out.trans (b.mono Bw69.out.size))
              obtain ⟨A10, c10, rfl, r10, h10, h10m⟩ := hl.form
              have hq := hl.len
              have HR10 := Lib.hid r10
              clear r10 hl b
              obtain ⟨kn, h_kn⟩ : ∃ kn, kn = sgB qs x4 := ⟨_, rfl⟩
              have HKN := Lib.hid h_kn
              clear h_kn
              obtain ⟨S, h_S⟩ : ∃ S, S = sgV qs x4 := ⟨_, rfl⟩
              have HSV := Lib.hid h_S
              clear h_S
              have hS : S.length ≤ 20 := by rw [HSV.out]; exact sg_len _ _
              go_wp2_with fail
              obtain ⟨wx, hwx⟩ : ∃ wx, wx = (w70.alloc (.cells #[.int .i64 x4.a, .int .i64 x4.b, .int .i64 x4.c, .int .i64 x4.d, .int .i64 x4.e] 44)) := ⟨_, rfl⟩
              have KX : Hid (Blk wx w70.heap.size [.int .i64 x4.a, .int .i64 x4.b, .int .i64 x4.c, .int .i64 x4.d, .int .i64 x4.e]) := Lib.hid (by rw [hwx]; exact Blk.new w70 _ _)
              have bx : Below w70.heap.size w70 wx := by rw [hwx]; exact (Below.refl _ _).alloc (Nat.le_refl _) _
              rw [← hwx]
              clear hwx
              have Bwx := Lib.hid (Bw70.out.trans (bx.mono Bw70.out.size))
              have HR10' := Lib.hid (HR10.out.below bx)
              clear HR10
              have HR10 := HR10'
              clear HR10'
              clear bx
              refine (implSignTreaty_any A10 qs.length c10 qs x4 _ rfl HR10.out (by omega)).mono ?_
              rintro e w71 ⟨v11, rfl, o, b⟩
              rw [← HKN.out]
              rw [← HSV.out] at o
              obtain ⟨A11, c11, rfl⟩ := own_form o
              have Bw71 := Lib.hid (Bwx.out.trans (b.mono Bwx.out.size))
              have HR10' := Lib.hid (HR10.out.below b)
              clear HR10
              have HR10 := HR10'
              clear HR10'
              have KX' := Lib.hid (KX.out.below b KX.out.lt)
              clear KX
              have KX := KX'
              clear KX'
              have HR11 := Lib.hid (Rd.of_own o)
              clear o b
              have y0 := KX.out.cell 0 _ rfl
              have y1 := KX.out.cell 1 _ rfl
              have y2 := KX.out.cell 2 _ rfl
              have y3 := KX.out.cell 3 _ rfl
              have y4 := KX.out.cell 4 _ rfl
              go_wp2_with fail
              clear y0 y1 y2 y3 y4
              refine (specSignTreaty_any A10 qs.length c10 qs x4 _ rfl HR10.out (by omega) h10 h10m).mono ?_
              rintro e w72 ⟨v12, rfl, o, b⟩
              rw [← HKN.out]
              rw [← HSV.out] at o
              obtain ⟨A12, c12, rfl⟩ := own_form o
              have Bw72 := Lib.hid (Bw71.out.trans (b.mono Bw71.out.size))
              have HR10' := Lib.hid (HR10.out.below b)
              clear HR10
              have HR10 := HR10'
              clear HR10'
              have HR11' := Lib.hid (HR11.out.below b)
              clear HR11
              have HR11 := HR11'
              clear HR11'
              have KX' := Lib.hid (KX.out.below b KX.out.lt)
              clear KX
              have KX := KX'
              clear KX'
              have HR12 := Lib.hid (Rd.of_own o)
              clear o b
              have y0 := KX.out.cell 0 _ rfl
              have y1 := KX.out.cell 1 _ rfl
              have y2 := KX.out.cell 2 _ rfl
              have y3 := KX.out.cell 3 _ rfl
              have y4 := KX.out.cell 4 _ rfl
              go_wp2_with fail
              clear y0 y1 y2 y3 y4
              refine (vTreaties_same _ _ _ _ _ S _ rfl HR11.out HR12.out (by omega)).mono ?_
              rintro e w73 ⟨rfl, b⟩
              have Bw73 := Lib.hid (Bw72.out.trans (b.mono Bw72.out.size))
              have HR11' := Lib.hid (HR11.out.below b)
              clear HR11
              have HR11 := HR11'
              clear HR11'
              have KX' := Lib.hid (KX.out.below b KX.out.lt)
              clear KX
              have KX := KX'
              clear KX'
              clear b
              cases kn with
              | false =>
                clear KX
                go_wp2_with fail
                refine (D5.out _ (HY.out.below Bw73.out)).mono ?_
                rintro e w74 ⟨v13, ps, a, b5, on5, rfl, hl, b⟩
                have Bw74 := Lib.hid (Bw73.out.trans (b.mono Bw73.out.size))
                obtain ⟨A13, c13, rfl, r13, h13, h13m⟩ := hl.form
                have hp5 := hl.len
                have HR13 := Lib.hid r13
                clear r13 hl b h13 h13m
                obtain ⟨k5, h_k5⟩ : ∃ k5, k5 = ifV ps a b5 on5 := ⟨_, rfl⟩
                have HK5 := Lib.hid h_k5
                clear h_k5
                obtain ⟨so, h_so⟩ : ∃ so, so = ifB ps a b5 on5 := ⟨_, rfl⟩
                have HSO := Lib.hid h_so
                clear h_so
                have hkk : (k5 != k5) = false := by simp
                go_wp2_with fail
                refine (implInForce_any A13 ps.length c13 ps a b5 on5 _ rfl HR13.out (by omega)).mono ?_
                rintro e w75 ⟨rfl, b⟩
                rw [← HK5.out, ← HSO.out]
                have Bw75 := Lib.hid (Bw74.out.trans (b.mono Bw74.out.size))
                have HR13' := Lib.hid (HR13.out.below b)
                clear HR13
                have HR13 := HR13'
                clear HR13'
                clear b
                go_wp2_with fail
                refine (specInForce_any A13 ps.length c13 ps a b5 on5 _ rfl HR13.out (by omega)).mono ?_
                rintro e w76 ⟨rfl, b⟩
                rw [← HK5.out, ← HSO.out]
                have Bw76 := Lib.hid (Bw75.out.trans (b.mono Bw75.out.size))
                clear b
                go_wp2_with fail
                refine (D6.out _ (HY.out.below Bw76.out)).mono ?_
                rintro e w77 ⟨x, rfl, b⟩
                have Bw77 := Lib.hid (Bw76.out.trans (b.mono Bw76.out.size))
                clear b
                go_wp2_with fail
                obtain ⟨wx, hwx⟩ : ∃ wx, wx = (w77.alloc (.cells #[.int .i64 x.a, .int .i64 x.b, .int .i64 x.c, .int .i64 x.d, .int .i64 x.e] 44)) := ⟨_, rfl⟩
                have KX : Hid (Blk wx w77.heap.size [.int .i64 x.a, .int .i64 x.b, .int .i64 x.c, .int .i64 x.d, .int .i64 x.e]) := Lib.hid (by rw [hwx]; exact Blk.new w77 _ _)
                have bx : Below w77.heap.size w77 wx := by rw [hwx]; exact (Below.refl _ _).alloc (Nat.le_refl _) _
                rw [← hwx]
                clear hwx
                have Bwx := Lib.hid (Bw77.out.trans (bx.mono Bw77.out.size))
                clear bx
                obtain ⟨sx, h_sx⟩ : ∃ sx, sx = ttV x := ⟨_, rfl⟩
                have HSX := Lib.hid h_sx
                clear h_sx
                obtain ⟨gd, h_gd⟩ : ∃ gd, gd = trB x := ⟨_, rfl⟩
                have HGD := Lib.hid h_gd
                clear h_gd
                refine (implTreatyText_any x _ (fun w' h => HT.out w' (Bwx.out.trans (h.mono Bwx.out.size)))).mono ?_
                rintro e w78 ⟨rfl, b⟩
                rw [← HSX.out, ← HGD.out]
                have Bw78 := Lib.hid (Bwx.out.trans (b.mono Bwx.out.size))
                have KX' := Lib.hid (KX.out.below b KX.out.lt)
                clear KX
                have KX := KX'
                clear KX'
                clear b
                have y0 := KX.out.cell 0 _ rfl
                have y1 := KX.out.cell 1 _ rfl
                have y2 := KX.out.cell 2 _ rfl
                have y3 := KX.out.cell 3 _ rfl
                have y4 := KX.out.cell 4 _ rfl
                go_wp2_with fail
                clear y0 y1 y2 y3 y4
                refine (specTreatyText_any x _).mono ?_
                rintro e w79 ⟨rfl, b⟩
                rw [← HSX.out, ← HGD.out]
                have Bw79 := Lib.hid (Bw78.out.trans (b.mono Bw78.out.size))
                clear b KX
                go_wp2
                go_ret
                exact ⟨by first | rfl | simp, Bw79.out⟩
              | true =>
                have HSF : Hid (ifB S x4.b x4.a x4.c = true) := Lib.hid (by rw [HSV.out]; exact sign_force HKN.out.symm)
                have y0 := KX.out.cell 0 _ rfl
                have y1 := KX.out.cell 1 _ rfl
                have y2 := KX.out.cell 2 _ rfl
                have y3 := KX.out.cell 3 _ rfl
                have y4 := KX.out.cell 4 _ rfl
                go_wp2_with fail
                clear y0 y1 y2 y3 y4
                refine (implInForce_any A11 S.length c11 S x4.b x4.a x4.c _ rfl HR11.out (by omega)).mono ?_
                rintro e w80 ⟨rfl, b⟩
                rw [HSF.out]
                have Bw80 := Lib.hid (Bw73.out.trans (b.mono Bw73.out.size))
                have KX' := Lib.hid (KX.out.below b KX.out.lt)
                clear KX
                have KX := KX'
                clear KX'
                clear b
                clear KX
                go_wp2_with fail
                refine (D5.out _ (HY.out.below Bw80.out)).mono ?_
                rintro e w81 ⟨v13, ps, a, b5, on5, rfl, hl, b⟩
                have Bw81 := Lib.hid (Bw80.out.trans (b.mono Bw80.out.size))
                obtain ⟨A13, c13, rfl, r13, h13, h13m⟩ := hl.form
                have hp5 := hl.len
                have HR13 := Lib.hid r13
                clear r13 hl b h13 h13m
                obtain ⟨k5, h_k5⟩ : ∃ k5, k5 = ifV ps a b5 on5 := ⟨_, rfl⟩
                have HK5 := Lib.hid h_k5
                clear h_k5
                obtain ⟨so, h_so⟩ : ∃ so, so = ifB ps a b5 on5 := ⟨_, rfl⟩
                have HSO := Lib.hid h_so
                clear h_so
                have hkk : (k5 != k5) = false := by simp
                go_wp2_with fail
                refine (implInForce_any A13 ps.length c13 ps a b5 on5 _ rfl HR13.out (by omega)).mono ?_
                rintro e w82 ⟨rfl, b⟩
                rw [← HK5.out, ← HSO.out]
                have Bw82 := Lib.hid (Bw81.out.trans (b.mono Bw81.out.size))
                have HR13' := Lib.hid (HR13.out.below b)
                clear HR13
                have HR13 := HR13'
                clear HR13'
                clear b
                go_wp2_with fail
                refine (specInForce_any A13 ps.length c13 ps a b5 on5 _ rfl HR13.out (by omega)).mono ?_
                rintro e w83 ⟨rfl, b⟩
                rw [← HK5.out, ← HSO.out]
                have Bw83 := Lib.hid (Bw82.out.trans (b.mono Bw82.out.size))
                clear b
                go_wp2_with fail
                refine (D6.out _ (HY.out.below Bw83.out)).mono ?_
                rintro e w84 ⟨x, rfl, b⟩
                have Bw84 := Lib.hid (Bw83.out.trans (b.mono Bw83.out.size))
                clear b
                go_wp2_with fail
                obtain ⟨wx, hwx⟩ : ∃ wx, wx = (w84.alloc (.cells #[.int .i64 x.a, .int .i64 x.b, .int .i64 x.c, .int .i64 x.d, .int .i64 x.e] 44)) := ⟨_, rfl⟩
                have KX : Hid (Blk wx w84.heap.size [.int .i64 x.a, .int .i64 x.b, .int .i64 x.c, .int .i64 x.d, .int .i64 x.e]) := Lib.hid (by rw [hwx]; exact Blk.new w84 _ _)
                have bx : Below w84.heap.size w84 wx := by rw [hwx]; exact (Below.refl _ _).alloc (Nat.le_refl _) _
                rw [← hwx]
                clear hwx
                have Bwx := Lib.hid (Bw84.out.trans (bx.mono Bw84.out.size))
                clear bx
                obtain ⟨sx, h_sx⟩ : ∃ sx, sx = ttV x := ⟨_, rfl⟩
                have HSX := Lib.hid h_sx
                clear h_sx
                obtain ⟨gd, h_gd⟩ : ∃ gd, gd = trB x := ⟨_, rfl⟩
                have HGD := Lib.hid h_gd
                clear h_gd
                refine (implTreatyText_any x _ (fun w' h => HT.out w' (Bwx.out.trans (h.mono Bwx.out.size)))).mono ?_
                rintro e w85 ⟨rfl, b⟩
                rw [← HSX.out, ← HGD.out]
                have Bw85 := Lib.hid (Bwx.out.trans (b.mono Bwx.out.size))
                have KX' := Lib.hid (KX.out.below b KX.out.lt)
                clear KX
                have KX := KX'
                clear KX'
                clear b
                have y0 := KX.out.cell 0 _ rfl
                have y1 := KX.out.cell 1 _ rfl
                have y2 := KX.out.cell 2 _ rfl
                have y3 := KX.out.cell 3 _ rfl
                have y4 := KX.out.cell 4 _ rfl
                go_wp2_with fail
                clear y0 y1 y2 y3 y4
                refine (specTreatyText_any x _).mono ?_
                rintro e w86 ⟨rfl, b⟩
                rw [← HSX.out, ← HGD.out]
                have Bw86 := Lib.hid (Bw85.out.trans (b.mono Bw85.out.size))
                clear b KX
                go_wp2
                go_ret
                exact ⟨by first | rfl | simp, Bw86.out⟩

theorem own : ownKnob Tryd.prog.godebug = none := by kernel_rfl
theorem laidOut : laidOutB Tryd.prog = true := by kernel_rfl
set_option maxRecDepth 100000 in
theorem lifted (os : Os) (started : os.Started) (H : Type) (enc : TypeId × Value → H) :
    ReturnsInHanded {} Tryd.checked os 3 .any (fun w args => (Rows.fnTreatiesSpec.pre enc Tryd.prog Tryd.f3 [] false w args ∧ laidMetH Tryd.prog Rows.fnTreatiesRow.laid w) ∧ sizedMet enc Tryd.prog Tryd.f3 (OpenSpec.ofChange Rows.fnTreatiesSpec) false w args)
      (Rows.fnTreatiesSpec.post enc Tryd.prog Tryd.f3 false true false false) := by
  refine returnsInHanded_of_change_and (C := Tryd.checked) (X := fun w _ => laidMetH Tryd.prog Rows.fnTreatiesRow.laid w) (fun _ _ _ hh h => h.of_heap hh) own started (by kernel_rfl) Tryd.func3
    (ChangeSpec.witness_shaped (enc := enc) (C := Tryd.checked) (os := os) (X := fun w _ => laidMetH Tryd.prog Rows.fnTreatiesRow.laid w) false (World.doorLaid Tryd.prog 24 os) #[.slice none 0 0] 8 rfl (World.shaped_of_RefB (by kernel_rfl) (by kernel_rfl)) (by kernel_rfl) (by kernel_rfl) (by kernel_rfl) (door_met os _)) ?_
  intro W base args ds gs before hval0 hW _ _ hL _
  have hval : ∀ (j : Nat) t v, Tryd.f3.params[j]? = some t → args[j]? = some v → Value.okWide Tryd.prog W .any base t v := hval0
  have hW' := hW
  obtain ⟨p, q, hA0, hV, rfl, hfz, hnd⟩ := hW
  have hA : DataW.TrodAll enc Tryd.prog W 0 (fun _ => true) true Tryd.f3.params.toList args.toList ds p := hA0
  rw [Tryd.params3] at hA hval
  obtain ⟨v0, vs0, d0, ds0, p0, q0, hargs, rfl, rfl, h0, r0⟩ := trodAll_cons hA
  obtain ⟨rfl, rfl, rfl⟩ := trodAll_nil r0
  obtain rfl : args = #[v0] := by cases args; simp_all
  obtain ⟨rfl, rfl⟩ := trodVars_none hV
  obtain ⟨a0, len0, cap0, rfl⟩ := okWide_slice Tryd.underlying22 (hval 0 22 v0 rfl rfl)
  have k0 := h0
  have lt0 : ∀ x ∈ p0, x.block < W.heap.size := by obtain ⟨m, hm⟩ := k0; exact DataW.trod_lt m _ _ _ hm
  obtain ⟨zs, hl0, hr0, hm0, hb0⟩ := openU Tryd.underlying22 Tryd.underlying5 (by kernel_rfl) h0
  clear hA0 hval0
  refine (walk a0 len0 cap0 zs W hl0 hr0 hm0 hb0 (tab_below hL)).mono fun e W' ⟨he, bel⟩ => ?_
  subst he
  exact ⟨_, rfl, _, _, _, [], _, [], hW', trodAll_mk1 (shut_bool Tryd.underlying4 _), (trodAll_cons_mk (Below.trod laidOut (by kernel_rfl) (of_decide_eq_true (by kernel_rfl)) k0 bel lt0) trodAll_mk0), rfl, bel.frame _, fun h => by cases h⟩

theorem over : Rows.fnTreatiesRow.holds Tryd.pinned (OpenSpec.ofChange Rows.fnTreatiesSpec) :=
  OpenClaim.holds_of_wide 3 Tryd.f3 rfl rfl rfl rfl rfl rfl rfl ⟨rfl, rfl, rfl, rfl, rfl⟩ rfl rfl rfl rfl rfl (by kernel_rfl) Tryd.func3 (by kernel_rfl)
    (of_decide_eq_true (by kernel_rfl)) (by unfold Func.isWrapper; first | (rw [if_pos (by decide +kernel)]; kernel_rfl) | (rw [if_neg (by decide +kernel)]; exact ⟨rfl, rfl⟩))
    (fun os started H enc _ => lifted os started H enc)

theorem proved : Rows.FnTreatiesCardSaid :=
  Claim7.holds_tied_plain_at .later [] [.data, .data, .data] true Rows.fnTreatiesCard.stood.harness false
    over (fun _ h => by cases h) (by kernel_rfl) (fun _ h => by cases h) fnTreaties_row_tie rfl ⟨rfl, rfl⟩ (by kernel_rfl) rfl
    (fun f fn hf hfn => by
      obtain rfl : f = 3 := Option.some.inj ((show Tryd.prog.funcNamed "loop.example/g01062/laws.FnTreaties" = some 3 by kernel_rfl).symm.trans hf) |>.symm
      obtain rfl : fn = Tryd.f3 := (Option.some.inj (Tryd.func3.symm.trans hfn)).symm
      exact ⟨by kernel_rfl, fun j t ht => by
        rw [Tryd.params3] at ht
        have hm : t ∈ [22] := by simpa using Array.mem_of_getElem? ht
        have hall : ([22].all fun u => !Tryd.prog.wantsStandIn u) = true := by kernel_rfl
        exact (show Tryd.prog.wantsStandIn t = false by simpa using List.all_eq_true.1 hall t hm)⟩)
    (by kernel_rfl)
#print axioms proved
end Go.Proofs.YtnaehlglpaadhaaDoor.ltFnTreaties
