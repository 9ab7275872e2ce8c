/- The law FnChains returns true for every input: what the program and the reference answer on chains and shares is the same and agrees with what the law asks. No conditions. -/
import Derived.Test.YtpmklcpplpnlhaaCurX
import Derived.Test.YtpmklcpplpnlhaaChnP
import Derived.Test.YtpmklcpplpnlhaaTreC
namespace Go.Proofs.Ytpmklcpplpnlhaa.lwFnChains
set_option linter.unusedSimpArgs false
open Go.ChangeShapes Go.WideShapes Go.ChangeAt Go.RowKit
set_option linter.unusedVariables false

set_option maxRecDepth 20000 in
set_option maxHeartbeats 16000000 in
theorem walk (B : Option Addr) (n c : Nat) (zs : List Int) (w : World) (hn : zs.length = n) (hB : Rd w B (cellsU zs)) (hm : n ≤ maxLen) (hb : ∀ z ∈ zs, 0 ≤ z ∧ z ≤ 255) :
    Calls Try.prog 4 #[.slice B n c] w (Ret (.bool true) w) := by
  have CB := Lib.hid (fun w => vBig_any B n c w hm)
  by_cases hbig : (65536 : Int) < n
  · rw [show decide ((65536 : Int) < n) = true by simp; omega] at CB
    clear hbig hn
    go_enter Try.func4, Try.ntmps4
    go_wp2_with fail
    refine (CB.out _).mono ?_
    rintro e w1 ⟨rfl, rfl⟩
    go_wp2
    go_ret
    exact ⟨rfl, Below.refl _ _⟩
  rw [show decide ((65536 : Int) < n) = false by simp; omega] at CB
  have HY : Hid (Bytes w B zs) := Lib.hid ⟨hB, hb, by omega⟩
  have HN := Lib.hid hn
  clear hbig hn hB hm hb
  have D1 := Lib.hid (fun w h => drawSharesOf_any B n c zs w HN.out h)
  have D2 := Lib.hid (fun w h => drawShortestChain_any B n c zs w HN.out h)
  have D3 := Lib.hid (fun w h => drawFirstChainDay_any B n c zs w HN.out h)
  go_enter Try.func4, Try.ntmps4
  go_wp2_with fail
  refine (CB.out _).mono ?_
  rintro e w0 ⟨rfl, rfl⟩
  have HB0 := Lib.hid (Below.refl w.heap.size w)
  go_wp2_with fail
  refine (D1.out _ (HY.out)).mono ?_
  rintro e w1 ⟨v1, xs, v2, ch, d, g, rfl, hl, hi, b⟩
  have Bw1 := Lib.hid (HB0.out.trans (b.mono HB0.out.size))
  obtain ⟨A1, c1, rfl, r1, h1, h1m⟩ := hl.form
  obtain ⟨A2, c2, rfl, r2, h2, h2m⟩ := hi.form
  have hx := hl.len
  have hc := hi.len
  have HR1 := Lib.hid r1
  have HR2 := Lib.hid r2
  clear r1 r2 hl hi b
  obtain ⟨ok, hok⟩ : ∃ ok, ok = shB xs ch d g := ⟨_, rfl⟩
  obtain ⟨S, hS⟩ : ∃ S, S = shV xs ch d g := ⟨_, rfl⟩
  have hS9 : S.length ≤ 9 := by rw [hS]; exact sh_len _ _ _ _
  have HOK := Lib.hid hok
  have HS := Lib.hid hS
  clear hok hS
  go_wp2_with fail
  refine (implSharesOf_any A1 xs.length c1 xs A2 ch.length c2 ch d g _ rfl HR1.out (by omega) rfl HR2.out (by omega) h2 h2m).mono ?_
  rintro e w2 ⟨v3, rfl, o, b⟩
  rw [← HOK.out]
  rw [← HS.out] at o
  obtain ⟨Av3, cv3, rfl⟩ := own_form o
  have Bw2 := Lib.hid (Bw1.out.trans (b.mono Bw1.out.size))
  have HR1' := Lib.hid (HR1.out.below b)
  clear HR1
  have HR1 := HR1'
  clear HR1'
  have HR2' := Lib.hid (HR2.out.below b)
  clear HR2
  have HR2 := HR2'
  clear HR2'
  have HRv3 := Lib.hid (Rd.of_own o)
  clear o b
  go_wp2_with fail
  refine (specSharesOf_any A1 xs.length c1 xs A2 ch.length c2 ch d g _ rfl HR1.out (by omega) rfl HR2.out (by omega) h2 h2m).mono ?_
  rintro e w3 ⟨v4, rfl, o, b⟩
  rw [← HOK.out]
  rw [← HS.out] at o
  obtain ⟨Av4, cv4, rfl⟩ := own_form o
  have Bw3 := Lib.hid (Bw2.out.trans (b.mono Bw2.out.size))
  have HR1' := Lib.hid (HR1.out.below b)
  clear HR1
  have HR1 := HR1'
  clear HR1'
  have HR2' := Lib.hid (HR2.out.below b)
  clear HR2
  have HR2 := HR2'
  clear HR2'
  have HRv3' := Lib.hid (HRv3.out.below b)
  clear HRv3
  have HRv3 := HRv3'
  clear HRv3'
  have HRv4 := Lib.hid (Rd.of_own o)
  clear o b
  go_wp2_with fail
  refine (vInts_same _ _ _ _ _ S _ rfl HRv3.out HRv4.out (by omega)).mono ?_
  rintro e w4 ⟨rfl, b⟩
  have Bw4 := Lib.hid (Bw3.out.trans (b.mono Bw3.out.size))
  have HR1' := Lib.hid (HR1.out.below b)
  clear HR1
  have HR1 := HR1'
  clear HR1'
  have HR2' := Lib.hid (HR2.out.below b)
  clear HR2
  have HR2 := HR2'
  clear HR2'
  have HRv3' := Lib.hid (HRv3.out.below b)
  clear HRv3
  have HRv3 := HRv3'
  clear HRv3'
  clear b
  obtain ⟨q, hq⟩ : ∃ q, q = trL xs := ⟨_, rfl⟩
  have HQ := Lib.hid hq
  clear hq
  go_wp2_with fail
  refine (implAreTreaties_any A1 xs.length c1 xs _ rfl HR1.out (by omega)).mono ?_
  rintro e w5 ⟨rfl, b⟩
  rw [← HQ.out]
  have Bw5 := Lib.hid (Bw4.out.trans (b.mono Bw4.out.size))
  have HR1' := Lib.hid (HR1.out.below b)
  clear HR1
  have HR1 := HR1'
  clear HR1'
  have HR2' := Lib.hid (HR2.out.below b)
  clear HR2
  have HR2 := HR2'
  clear HR2'
  have HRv3' := Lib.hid (HRv3.out.below b)
  clear HRv3
  have HRv3 := HRv3'
  clear HRv3'
  clear b
  go_wp2_with fail
  refine (specAreTreaties_any A1 xs.length c1 xs _ rfl HR1.out (by omega)).mono ?_
  rintro e w6 ⟨rfl, b⟩
  rw [← HQ.out]
  have Bw6 := Lib.hid (Bw5.out.trans (b.mono Bw5.out.size))
  have HR1' := Lib.hid (HR1.out.below b)
  clear HR1
  have HR1 := HR1'
  clear HR1'
  have HR2' := Lib.hid (HR2.out.below b)
  clear HR2
  have HR2 := HR2'
  clear HR2'
  have HRv3' := Lib.hid (HRv3.out.below b)
  clear HRv3
  have HRv3 := HRv3'
  clear HRv3'
  clear b
  have hqq : (q != q) = false := by simp
  cases ok with
  | false =>
    go_wp2_with fail
    refine (D2.out _ (HY.out.below Bw6.out)).mono ?_
    rintro e w7 ⟨v5, ys, a, b5, on, rfl, hl, b⟩
    have Bw7 := Lib.hid (Bw6.out.trans (b.mono Bw6.out.size))
    obtain ⟨A5, c5, rfl, r5, h5, h5m⟩ := hl.form
    have hy := hl.len
    have HR5 := Lib.hid r5
    clear r5 hl b
    obtain ⟨told, ht⟩ : ∃ told, told = scB ys a b5 on := ⟨_, rfl⟩
    obtain ⟨C, hC⟩ : ∃ C, C = scV ys a b5 on := ⟨_, rfl⟩
    have hC9 : C.length ≤ 9 := by rw [hC]; exact sc_len _ _ _ _
    have HT := Lib.hid ht
    have HC := Lib.hid hC
    clear ht hC
    go_wp2_with fail
    refine (implShortestChain_any A5 ys.length c5 ys a b5 on _ rfl HR5.out (by omega)).mono ?_
    rintro e w8 ⟨v6, rfl, o, b⟩
    rw [← HT.out]
    rw [← HC.out] at o
    obtain ⟨Av6, cv6, rfl⟩ := own_form o
    have Bw8 := Lib.hid (Bw7.out.trans (b.mono Bw7.out.size))
    have HR5' := Lib.hid (HR5.out.below b)
    clear HR5
    have HR5 := HR5'
    clear HR5'
    have HRv6 := Lib.hid (Rd.of_own o)
    have hc6 := (own_capS o).1
    have hc6m := (own_capS o).2
    clear o b
    go_wp2_with fail
    refine (specShortestChain_any A5 ys.length c5 ys a b5 on _ rfl HR5.out (by omega)).mono ?_
    rintro e w9 ⟨v7, rfl, o, b⟩
    rw [← HT.out]
    rw [← HC.out] at o
    obtain ⟨Av7, cv7, rfl⟩ := own_form o
    have Bw9 := Lib.hid (Bw8.out.trans (b.mono Bw8.out.size))
    have HR5' := Lib.hid (HR5.out.below b)
    clear HR5
    have HR5 := HR5'
    clear HR5'
    have HRv6' := Lib.hid (HRv6.out.below b)
    clear HRv6
    have HRv6 := HRv6'
    clear HRv6'
    have HRv7 := Lib.hid (Rd.of_own o)
    clear o b
    go_wp2_with fail
    refine (vInts_same _ _ _ _ _ C _ rfl HRv6.out HRv7.out (by omega)).mono ?_
    rintro e w10 ⟨rfl, b⟩
    have Bw10 := Lib.hid (Bw9.out.trans (b.mono Bw9.out.size))
    have HR5' := Lib.hid (HR5.out.below b)
    clear HR5
    have HR5 := HR5'
    clear HR5'
    have HRv6' := Lib.hid (HRv6.out.below b)
    clear HRv6
    have HRv6 := HRv6'
    clear HRv6'
    clear b
    cases told with
    | false =>
      go_wp2_with fail
      refine (D3.out _ (HY.out.below Bw10.out)).mono ?_
      rintro e w11 ⟨va, us, p, q3, from_, rfl, hl, b⟩
      have Bw11 := Lib.hid (Bw10.out.trans (b.mono Bw10.out.size))
      obtain ⟨Aa, ca, rfl, ra, ha, ham⟩ := hl.form
      have hu := hl.len
      have HRa := Lib.hid ra
      clear ra hl b
      obtain ⟨first, fine, hf⟩ : ∃ first fine, fcV us p q3 from_ = (first, fine) := ⟨_, _, rfl⟩
      have HF := Lib.hid hf
      clear hf
      go_wp2_with fail
      refine (implFirstChainDay_any Aa us.length ca us p q3 from_ _ rfl HRa.out (by omega)).mono ?_
      rintro e w12 ⟨rfl, b⟩
      rw [HF.out]
      have Bw12 := Lib.hid (Bw11.out.trans (b.mono Bw11.out.size))
      have HRa' := Lib.hid (HRa.out.below b)
      clear HRa
      have HRa := HRa'
      clear HRa'
      clear b
      go_wp2_with fail
      refine (specFirstChainDay_any Aa us.length ca us p q3 from_ _ rfl HRa.out (by omega)).mono ?_
      rintro e w13 ⟨rfl, b⟩
      rw [HF.out]
      have Bw13 := Lib.hid (Bw12.out.trans (b.mono Bw12.out.size))
      have HRa' := Lib.hid (HRa.out.below b)
      clear HRa
      have HRa := HRa'
      clear HRa'
      clear b
      have hne : (first != first) = false := by simp
      cases fine with
      | false =>
        go_wp2
        go_ret
        exact ⟨rfl, Bw13.out⟩
      | true =>
        obtain ⟨⟨hfa, hfb⟩, hfc, hf1, hf2⟩ := fc_found HF.out
        have HF1 := Lib.hid hf1
        have HF2 := Lib.hid hf2
        clear hf1 hf2
        go_wp2_with fail
        refine (implShortestChain_any Aa us.length ca us p q3 first _ rfl HRa.out (by omega)).mono ?_
        rintro e w14 ⟨vb, rfl, o, b⟩
        rw [HF1.out]
        have Bw14 := Lib.hid (Bw13.out.trans (b.mono Bw13.out.size))
        have HRa' := Lib.hid (HRa.out.below b)
        clear HRa
        have HRa := HRa'
        clear HRa'
        clear o b
        have hw1 : IntKind.i64.wrap (first - 1) = first - 1 := IntWalk.i64_in _ (by omega)
        go_wp2_with fail
        refine (implShortestChain_any Aa us.length ca us p q3 (first - 1) _ rfl HRa.out (by omega)).mono ?_
        rintro e w15 ⟨vc, rfl, o, b⟩
        obtain ⟨two, h2⟩ : ∃ two, two = scB us p q3 (first - 1) := ⟨_, rfl⟩
        rw [← h2]
        have HT2 := Lib.hid h2
        have Bw15 := Lib.hid (Bw14.out.trans (b.mono Bw14.out.size))
        clear o b h2
        have hlf : decide (first < from_) = false := by simp; omega
        have hlf2 : from_ ≤ first := hfa
        by_cases hgt : from_ < first
        · have hgd : decide (from_ < first) = true := by simp; omega
          have ht2 : two = false := by rw [HT2.out]; exact HF2.out hgt
          subst ht2
          go_wp2
          go_ret
          exact ⟨rfl, Bw15.out⟩
        · have hgd : decide (from_ < first) = false := by simp; omega
          have hge : first ≤ from_ := by omega
          go_wp2
          go_ret
          exact ⟨rfl, Bw15.out⟩
    | true =>
      go_wp2_with fail
      refine (implShortestChain_any A5 ys.length c5 ys b5 a on _ rfl HR5.out (by omega)).mono ?_
      rintro e w16 ⟨v8, rfl, o, b⟩
      have hs1 : scB ys b5 a on = true := (sc_sym (xs := ys) (a := a) (b := b5) (day := on)).1.trans HT.out.symm
      rw [hs1]
      obtain ⟨K, hK⟩ : ∃ K, K = scV ys b5 a on := ⟨_, rfl⟩
      rw [← hK] at o
      have hKC : K.length = C.length := by rw [hK, HC.out]; exact (sc_sym (xs := ys) (a := a) (b := b5) (day := on)).2
      obtain ⟨A8, c8, rfl⟩ := own_form o
      have Bw16 := Lib.hid (Bw10.out.trans (b.mono Bw10.out.size))
      have HR5' := Lib.hid (HR5.out.below b)
      clear HR5
      have HR5 := HR5'
      clear HR5'
      have HRv6' := Lib.hid (HRv6.out.below b)
      clear HRv6
      have HRv6 := HRv6'
      clear HRv6'
      have HKC := Lib.hid hKC
      clear o b hs1 hK hKC
      go_wp2_with fail
      refine (implSharesOf_any A5 ys.length c5 ys Av6 C.length cv6 C on 1000 _ rfl HR5.out (by omega) rfl HRv6.out (by omega) hc6 hc6m).mono ?_
      rintro e w17 ⟨v9, rfl, o, b⟩
      have hs2 : shB ys C on 1000 = true := by rw [HC.out]; exact sc_chain HT.out.symm
      rw [hs2]
      have Bw17 := Lib.hid (Bw16.out.trans (b.mono Bw16.out.size))
      clear o b hs2
      have hl2 : ((K.length : Int) != (C.length : Int)) = false := by have := HKC.out; simp; omega
      have hl3 : (K.length != C.length) = false := by have := HKC.out; simp; omega
      go_wp2_with fail
      refine (D3.out _ (HY.out.below Bw17.out)).mono ?_
      rintro e w18 ⟨va, us, p, q3, from_, rfl, hl, b⟩
      have Bw18 := Lib.hid (Bw17.out.trans (b.mono Bw17.out.size))
      obtain ⟨Aa, ca, rfl, ra, ha, ham⟩ := hl.form
      have hu := hl.len
      have HRa := Lib.hid ra
      clear ra hl b
      obtain ⟨first, fine, hf⟩ : ∃ first fine, fcV us p q3 from_ = (first, fine) := ⟨_, _, rfl⟩
      have HF := Lib.hid hf
      clear hf
      go_wp2_with fail
      refine (implFirstChainDay_any Aa us.length ca us p q3 from_ _ rfl HRa.out (by omega)).mono ?_
      rintro e w19 ⟨rfl, b⟩
      rw [HF.out]
      have Bw19 := Lib.hid (Bw18.out.trans (b.mono Bw18.out.size))
      have HRa' := Lib.hid (HRa.out.below b)
      clear HRa
      have HRa := HRa'
      clear HRa'
      clear b
      go_wp2_with fail
      refine (specFirstChainDay_any Aa us.length ca us p q3 from_ _ rfl HRa.out (by omega)).mono ?_
      rintro e w20 ⟨rfl, b⟩
      rw [HF.out]
      have Bw20 := Lib.hid (Bw19.out.trans (b.mono Bw19.out.size))
      have HRa' := Lib.hid (HRa.out.below b)
      clear HRa
      have HRa := HRa'
      clear HRa'
      clear b
      have hne : (first != first) = false := by simp
      cases fine with
      | false =>
        go_wp2
        go_ret
        exact ⟨rfl, Bw20.out⟩
      | true =>
        obtain ⟨⟨hfa, hfb⟩, hfc, hf1, hf2⟩ := fc_found HF.out
        have HF1 := Lib.hid hf1
        have HF2 := Lib.hid hf2
        clear hf1 hf2
        go_wp2_with fail
        refine (implShortestChain_any Aa us.length ca us p q3 first _ rfl HRa.out (by omega)).mono ?_
        rintro e w21 ⟨vb, rfl, o, b⟩
        rw [HF1.out]
        have Bw21 := Lib.hid (Bw20.out.trans (b.mono Bw20.out.size))
        have HRa' := Lib.hid (HRa.out.below b)
        clear HRa
        have HRa := HRa'
        clear HRa'
        clear o b
        have hw1 : IntKind.i64.wrap (first - 1) = first - 1 := IntWalk.i64_in _ (by omega)
        go_wp2_with fail
        refine (implShortestChain_any Aa us.length ca us p q3 (first - 1) _ rfl HRa.out (by omega)).mono ?_
        rintro e w22 ⟨vc, rfl, o, b⟩
        obtain ⟨two, h2⟩ : ∃ two, two = scB us p q3 (first - 1) := ⟨_, rfl⟩
        rw [← h2]
        have HT2 := Lib.hid h2
        have Bw22 := Lib.hid (Bw21.out.trans (b.mono Bw21.out.size))
        clear o b h2
        have hlf : decide (first < from_) = false := by simp; omega
        have hlf2 : from_ ≤ first := hfa
        by_cases hgt : from_ < first
        · have hgd : decide (from_ < first) = true := by simp; omega
          have ht2 : two = false := by rw [HT2.out]; exact HF2.out hgt
          subst ht2
          go_wp2
          go_ret
          exact ⟨rfl, Bw22.out⟩
        · have hgd : decide (from_ < first) = false := by simp; omega
          have hge : first ≤ from_ := by omega
          go_wp2
          go_ret
          exact ⟨rfl, Bw22.out⟩
  | true =>
    have hsl : S.length = ch.length := by rw [HS.out]; exact (sh_sum HOK.out.symm).2
    have hsg : wrap64 S.sum = g := by rw [HS.out, (sh_sum HOK.out.symm).1]; have h3 := HOK.out.symm; simp only [shB, Bool.and_eq_true] at h3; have h4 := inR_true.1 h3.2.2.1; exact IntWalk.wrap64_in g (by omega)
    have CV := Lib.hid (fun w h => vSum_any Av3 S.length cv3 S w rfl h (by omega))
    rw [hsg] at CV
    clear hsg
    have hln : ((S.length : Int) != (ch.length : Int)) = false := by simp; omega
    have hln2 : (S.length != ch.length) = false := by simp; omega
    have HSL := Lib.hid hsl
    clear hsl
    go_wp2_with fail
    refine (CV.out _ HRv3.out).mono ?_
    rintro e w23 ⟨rfl, rfl⟩
    go_wp2_with fail
    refine (D2.out _ (HY.out.below Bw6.out)).mono ?_
    rintro e w24 ⟨v5, ys, a, b5, on, rfl, hl, b⟩
    have Bw24 := Lib.hid (Bw6.out.trans (b.mono Bw6.out.size))
    obtain ⟨A5, c5, rfl, r5, h5, h5m⟩ := hl.form
    have hy := hl.len
    have HR5 := Lib.hid r5
    clear r5 hl b
    obtain ⟨told, ht⟩ : ∃ told, told = scB ys a b5 on := ⟨_, rfl⟩
    obtain ⟨C, hC⟩ : ∃ C, C = scV ys a b5 on := ⟨_, rfl⟩
    have hC9 : C.length ≤ 9 := by rw [hC]; exact sc_len _ _ _ _
    have HT := Lib.hid ht
    have HC := Lib.hid hC
    clear ht hC
    go_wp2_with fail
    refine (implShortestChain_any A5 ys.length c5 ys a b5 on _ rfl HR5.out (by omega)).mono ?_
    rintro e w25 ⟨v6, rfl, o, b⟩
    rw [← HT.out]
    rw [← HC.out] at o
    obtain ⟨Av6, cv6, rfl⟩ := own_form o
    have Bw25 := Lib.hid (Bw24.out.trans (b.mono Bw24.out.size))
    have HR5' := Lib.hid (HR5.out.below b)
    clear HR5
    have HR5 := HR5'
    clear HR5'
    have HRv6 := Lib.hid (Rd.of_own o)
    have hc6 := (own_capS o).1
    have hc6m := (own_capS o).2
    clear o b
    go_wp2_with fail
    refine (specShortestChain_any A5 ys.length c5 ys a b5 on _ rfl HR5.out (by omega)).mono ?_
    rintro e w26 ⟨v7, rfl, o, b⟩
    rw [← HT.out]
    rw [← HC.out] at o
    obtain ⟨Av7, cv7, rfl⟩ := own_form o
    have Bw26 := Lib.hid (Bw25.out.trans (b.mono Bw25.out.size))
    have HR5' := Lib.hid (HR5.out.below b)
    clear HR5
    have HR5 := HR5'
    clear HR5'
    have HRv6' := Lib.hid (HRv6.out.below b)
    clear HRv6
    have HRv6 := HRv6'
    clear HRv6'
    have HRv7 := Lib.hid (Rd.of_own o)
    clear o b
    go_wp2_with fail
    refine (vInts_same _ _ _ _ _ C _ rfl HRv6.out HRv7.out (by omega)).mono ?_
    rintro e w27 ⟨rfl, b⟩
    have Bw27 := Lib.hid (Bw26.out.trans (b.mono Bw26.out.size))
    have HR5' := Lib.hid (HR5.out.below b)
    clear HR5
    have HR5 := HR5'
    clear HR5'
    have HRv6' := Lib.hid (HRv6.out.below b)
    clear HRv6
    have HRv6 := HRv6'
    clear HRv6'
    clear b
    cases told with
    | false =>
      go_wp2_with fail
      refine (D3.out _ (HY.out.below Bw27.out)).mono ?_
      rintro e w28 ⟨va, us, p, q3, from_, rfl, hl, b⟩
      have Bw28 := Lib.hid (Bw27.out.trans (b.mono Bw27.out.size))
      obtain ⟨Aa, ca, rfl, ra, ha, ham⟩ := hl.form
      have hu := hl.len
      have HRa := Lib.hid ra
      clear ra hl b
      obtain ⟨first, fine, hf⟩ : ∃ first fine, fcV us p q3 from_ = (first, fine) := ⟨_, _, rfl⟩
      have HF := Lib.hid hf
      clear hf
      go_wp2_with fail
      refine (implFirstChainDay_any Aa us.length ca us p q3 from_ _ rfl HRa.out (by omega)).mono ?_
      rintro e w29 ⟨rfl, b⟩
      rw [HF.out]
      have Bw29 := Lib.hid (Bw28.out.trans (b.mono Bw28.out.size))
      have HRa' := Lib.hid (HRa.out.below b)
      clear HRa
      have HRa := HRa'
      clear HRa'
      clear b
      go_wp2_with fail
      refine (specFirstChainDay_any Aa us.length ca us p q3 from_ _ rfl HRa.out (by omega)).mono ?_
      rintro e w30 ⟨rfl, b⟩
      rw [HF.out]
      have Bw30 := Lib.hid (Bw29.out.trans (b.mono Bw29.out.size))
      have HRa' := Lib.hid (HRa.out.below b)
      clear HRa
      have HRa := HRa'
      clear HRa'
      clear b
      have hne : (first != first) = false := by simp
      cases fine with
      | false =>
        go_wp2
        go_ret
        exact ⟨rfl, Bw30.out⟩
      | true =>
        obtain ⟨⟨hfa, hfb⟩, hfc, hf1, hf2⟩ := fc_found HF.out
        have HF1 := Lib.hid hf1
        have HF2 := Lib.hid hf2
        clear hf1 hf2
        go_wp2_with fail
        refine (implShortestChain_any Aa us.length ca us p q3 first _ rfl HRa.out (by omega)).mono ?_
        rintro e w31 ⟨vb, rfl, o, b⟩
        rw [HF1.out]
        have Bw31 := Lib.hid (Bw30.out.trans (b.mono Bw30.out.size))
        have HRa' := Lib.hid (HRa.out.below b)
        clear HRa
        have HRa := HRa'
        clear HRa'
        clear o b
        have hw1 : IntKind.i64.wrap (first - 1) = first - 1 := IntWalk.i64_in _ (by omega)
        go_wp2_with fail
        refine (implShortestChain_any Aa us.length ca us p q3 (first - 1) _ rfl HRa.out (by omega)).mono ?_
        rintro e w32 ⟨vc, rfl, o, b⟩
        obtain ⟨two, h2⟩ : ∃ two, two = scB us p q3 (first - 1) := ⟨_, rfl⟩
        rw [← h2]
        have HT2 := Lib.hid h2
        have Bw32 := Lib.hid (Bw31.out.trans (b.mono Bw31.out.size))
        clear o b h2
        have hlf : decide (first < from_) = false := by simp; omega
        have hlf2 : from_ ≤ first := hfa
        by_cases hgt : from_ < first
        · have hgd : decide (from_ < first) = true := by simp; omega
          have ht2 : two = false := by rw [HT2.out]; exact HF2.out hgt
          subst ht2
          go_wp2
          go_ret
          exact ⟨rfl, Bw32.out⟩
        · have hgd : decide (from_ < first) = false := by simp; omega
          have hge : first ≤ from_ := by omega
          go_wp2
          go_ret
          exact ⟨rfl, Bw32.out⟩
    | true =>
      go_wp2_with fail
      refine (implShortestChain_any A5 ys.length c5 ys b5 a on _ rfl HR5.out (by omega)).mono ?_
      rintro e w33 ⟨v8, rfl, o, b⟩
      have hs1 : scB ys b5 a on = true := (sc_sym (xs := ys) (a := a) (b := b5) (day := on)).1.trans HT.out.symm
      rw [hs1]
      obtain ⟨K, hK⟩ : ∃ K, K = scV ys b5 a on := ⟨_, rfl⟩
      rw [← hK] at o
      have hKC : K.length = C.length := by rw [hK, HC.out]; exact (sc_sym (xs := ys) (a := a) (b := b5) (day := on)).2
      obtain ⟨A8, c8, rfl⟩ := own_form o
      have Bw33 := Lib.hid (Bw27.out.trans (b.mono Bw27.out.size))
      have HR5' := Lib.hid (HR5.out.below b)
      clear HR5
      have HR5 := HR5'
      clear HR5'
      have HRv6' := Lib.hid (HRv6.out.below b)
      clear HRv6
      have HRv6 := HRv6'
      clear HRv6'
      have HKC := Lib.hid hKC
      clear o b hs1 hK hKC
      go_wp2_with fail
      refine (implSharesOf_any A5 ys.length c5 ys Av6 C.length cv6 C on 1000 _ rfl HR5.out (by omega) rfl HRv6.out (by omega) hc6 hc6m).mono ?_
      rintro e w34 ⟨v9, rfl, o, b⟩
      have hs2 : shB ys C on 1000 = true := by rw [HC.out]; exact sc_chain HT.out.symm
      rw [hs2]
      have Bw34 := Lib.hid (Bw33.out.trans (b.mono Bw33.out.size))
      clear o b hs2
      have hl2 : ((K.length : Int) != (C.length : Int)) = false := by have := HKC.out; simp; omega
      have hl3 : (K.length != C.length) = false := by have := HKC.out; simp; omega
      go_wp2_with fail
      refine (D3.out _ (HY.out.below Bw34.out)).mono ?_
      rintro e w35 ⟨va, us, p, q3, from_, rfl, hl, b⟩
      have Bw35 := Lib.hid (Bw34.out.trans (b.mono Bw34.out.size))
      obtain ⟨Aa, ca, rfl, ra, ha, ham⟩ := hl.form
      have hu := hl.len
      have HRa := Lib.hid ra
      clear ra hl b
      obtain ⟨first, fine, hf⟩ : ∃ first fine, fcV us p q3 from_ = (first, fine) := ⟨_, _, rfl⟩
      have HF := Lib.hid hf
      clear hf
      go_wp2_with fail
      refine (implFirstChainDay_any Aa us.length ca us p q3 from_ _ rfl HRa.out (by omega)).mono ?_
      rintro e w36 ⟨rfl, b⟩
      rw [HF.out]
      have Bw36 := Lib.hid (Bw35.out.trans (b.mono Bw35.out.size))
      have HRa' := Lib.hid (HRa.out.below b)
      clear HRa
      have HRa := HRa'
      clear HRa'
      clear b
      go_wp2_with fail
      refine (specFirstChainDay_any Aa us.length ca us p q3 from_ _ rfl HRa.out (by omega)).mono ?_
      rintro e w37 ⟨rfl, b⟩
      rw [HF.out]
      have Bw37 := Lib.hid (Bw36.out.trans (b.mono Bw36.out.size))
      have HRa' := Lib.hid (HRa.out.below b)
      clear HRa
      have HRa := HRa'
      clear HRa'
      clear b
      have hne : (first != first) = false := by simp
      cases fine with
      | false =>
        go_wp2
        go_ret
        exact ⟨rfl, Bw37.out⟩
      | true =>
        obtain ⟨⟨hfa, hfb⟩, hfc, hf1, hf2⟩ := fc_found HF.out
        have HF1 := Lib.hid hf1
        have HF2 := Lib.hid hf2
        clear hf1 hf2
        go_wp2_with fail
        refine (implShortestChain_any Aa us.length ca us p q3 first _ rfl HRa.out (by omega)).mono ?_
        rintro e w38 ⟨vb, rfl, o, b⟩
        rw [HF1.out]
        have Bw38 := Lib.hid (Bw37.out.trans (b.mono Bw37.out.size))
        have HRa' := Lib.hid (HRa.out.below b)
        clear HRa
        have HRa := HRa'
        clear HRa'
        clear o b
        have hw1 : IntKind.i64.wrap (first - 1) = first - 1 := IntWalk.i64_in _ (by omega)
        go_wp2_with fail
        refine (implShortestChain_any Aa us.length ca us p q3 (first - 1) _ rfl HRa.out (by omega)).mono ?_
        rintro e w39 ⟨vc, rfl, o, b⟩
        obtain ⟨two, h2⟩ : ∃ two, two = scB us p q3 (first - 1) := ⟨_, rfl⟩
        rw [← h2]
        have HT2 := Lib.hid h2
        have Bw39 := Lib.hid (Bw38.out.trans (b.mono Bw38.out.size))
        clear o b h2
        have hlf : decide (first < from_) = false := by simp; omega
        have hlf2 : from_ ≤ first := hfa
        by_cases hgt : from_ < first
        · have hgd : decide (from_ < first) = true := by simp; omega
          have ht2 : two = false := by rw [HT2.out]; exact HF2.out hgt
          subst ht2
          go_wp2
          go_ret
          exact ⟨rfl, Bw39.out⟩
        · have hgd : decide (from_ < first) = false := by simp; omega
          have hge : first ≤ from_ := by omega
          go_wp2
          go_ret
          exact ⟨rfl, Bw39.out⟩

theorem own : ownKnob Try.prog.godebug = none := by kernel_rfl
theorem laidOut : laidOutB Try.prog = true := by kernel_rfl
set_option maxRecDepth 100000 in
theorem lifted (os : Os) (started : os.Started) (H : Type) (enc : TypeId × Value → H) :
    ReturnsInHanded {} Try.checked os 4 .any (Rows.fnChainsSpec.pre6 enc Try.prog Try.f4 Rows.fnChainsRow.domain false) (Rows.fnChainsSpec.post enc Try.prog Try.f4 false true false false) := by
  refine returnsInHanded_of_change (C := Try.checked) own started (by kernel_rfl) Try.func4
    (ChangeSpec.witness6 (enc := enc) (C := Try.checked) false ⟨#[], #[.slice none 0 0], []⟩ 8 (by kernel_rfl) (by kernel_rfl) (by kernel_rfl) (by kernel_rfl)) ?_
  intro W base args ds gs before hval0 hW hcnd _
  have hval : ∀ (j : Nat) t v, Try.f4.params[j]? = some t → args[j]? = some v → Value.okWide Try.prog W .any base t v := hval0
  have hW' := hW
  obtain ⟨p, q, hA0, hV, rfl, hfz, hnd⟩ := hW
  have hA : DataW.TrodAll enc Try.prog W 0 (fun _ => true) true Try.f4.params.toList args.toList ds p := hA0
  rw [Try.params4] at hA hval
  obtain ⟨v0, vs0, d0, ds0, p0, q0, hargs, rfl, rfl, h0, r0⟩ := trodAll_cons hA
  obtain ⟨rfl, rfl, rfl⟩ := trodAll_nil r0
  obtain rfl : args = #[v0] := by cases args; simp_all
  obtain ⟨rfl, rfl⟩ := trodVars_none hV
  obtain ⟨a0, len0, cap0, rfl⟩ := okWide_slice Try.underlying34 (hval 0 34 v0 rfl rfl)
  have k0 := h0
  have lt0 : ∀ x ∈ p0, x.block < W.heap.size := by obtain ⟨m, hm⟩ := k0; exact DataW.trod_lt m _ _ _ hm
  obtain ⟨zs, hl0, hr0, hm0, hb0⟩ := openU Try.underlying34 Try.underlying5 (by kernel_rfl) h0
  clear hA0 hval0
  refine (walk a0 len0 cap0 zs W hl0 hr0 hm0 hb0).mono fun e W' ⟨he, bel⟩ => ?_
  subst he
  exact ⟨_, rfl, _, _, _, [], _, [], hW', trodAll_mk1 (shut_bool Try.underlying4 _), (trodAll_cons_mk (Below.trod laidOut (by kernel_rfl) (of_decide_eq_true (by kernel_rfl)) k0 bel lt0) trodAll_mk0), rfl, bel.frame _, fun h => by cases h⟩

theorem over : Rows.fnChainsRow.holds Try.pinned (OpenSpec.ofChange Rows.fnChainsSpec) :=
  OpenClaim.holds_of_wide 4 Try.f4 rfl rfl rfl rfl rfl rfl rfl ⟨rfl, rfl, rfl, rfl, rfl⟩ rfl rfl rfl rfl rfl (by kernel_rfl) Try.func4 (by kernel_rfl)
    (of_decide_eq_true (by kernel_rfl)) (by unfold Func.isWrapper; first | (rw [if_pos (by decide +kernel)]; kernel_rfl) | (rw [if_neg (by decide +kernel)]; exact ⟨rfl, rfl⟩))
    (fun os started H enc _ => lifted os started H enc)

theorem proved : Rows.FnChainsSaid := over
#print axioms proved
end Go.Proofs.Ytpmklcpplpnlhaa.lwFnChains
