/- AddInsurance of the specification. -/
import Derived.Test.YtcibibkainablaaInsO
import Derived.Deep.RegionHeld3
namespace Go.Proofs.Ytcibibkainablaa
set_option linter.unusedVariables false
set_option linter.unusedSimpArgs false
open Go.RowKit

/-- append, as one step of a region that draws its order. -/
theorem step_app {P : Program} {ops : Array Oper} {o : Oper} {a : Act} {w : World} {K : Act → World → Prop} {Q : Exit → Act → World → Prop} {E : Prop} (hgd : o.guard = none) (s x : Operand) (t : TypeId)
    (ho : o.op = .call { callee := .builtin .append, args := #[s, x], argTypes := #[t, t] })
    (base : Nat) (e : TypeId) (z : Value) (size bytes : Nat) (ht : P.underlying t = some (.slice e)) (hinfo : (P.info? e).map (fun i => (i.zero, i.size, i.bytes)) = some (some z, size, bytes))
    (hzs : z.cells.size = size) (hsz : 0 < size) (v : Value) (n : Nat) (xs : List Value) (hs : a.eval s = v) (hown : w.ownsRow base e size v n xs)
    (A : Option Addr) (m c : Nat) (news : List Value) (hx : a.eval x = .slice A m c) (hl : news.length = m * size) (hr : Rd w A news) (h1 : ∀ u ∈ news, u.oneCell' = true)
    (h63 : n + m ≤ maxLen) (hbytes : (n + m) * bytes ≤ 140737488355328) (hbase : base ≤ w.heap.size)
    (h : ∀ v' w', w'.ownsRow base e size v' (n + m) (xs ++ news) → w.grownBy w' v.ownBlock → (v'.ownBlock = v.ownBlock ∨ v'.ownBlock = some w.heap.size) → K (a.put o.dst v') w') :
    if Region.wanted o (yielded ops a.tmps) = true then Oper.wp P o a w K Q else E := by
  have hw : Region.wanted o (yielded ops a.tmps) = true := by simp [Region.wanted, hgd]
  rw [if_pos hw]
  exact wp_app w s x t ho base e z size bytes ht hinfo hzs hsz v n xs hs hown A m c news hx hl hr h1 h63 hbytes hbase h

theorem rd_dropT {w : World} {g o : Nat} {xs : List R5} (h : Rd w (some ⟨g, o, none⟩) (cells5 xs)) (k : Nat) : Rd w (some ⟨g, o + k * 5, none⟩) (cells5 (xs.drop k)) := by
  rcases h with h | ⟨g', o', e, hg, hc⟩
  · left
    rw [cells5_drop, h, List.drop_nil]
  · injection e with e
    injection e with e1 e2
    subst e1; subst e2
    refine .inr ⟨g, o + k * 5, rfl, hg, fun j v hv => ?_⟩
    rw [cells5_drop, List.getElem?_drop] at hv
    rw [Nat.add_assoc]
    exact hc _ v hv
theorem rd_takeT {w : World} {A : Option Addr} {xs : List R5} (h : Rd w A (cells5 xs)) (k : Nat) : Rd w A (cells5 (xs.take k)) := by
  have e : cells5 xs = cells5 (xs.take k) ++ cells5 (xs.drop k) := by rw [← cells5_append, List.take_append_drop]
  rw [e] at h
  exact Rd.prefix_ h


theorem own_empty' {w : World} {base e size b : Nat} (hb : b = w.heap.size) (hb2 : base ≤ w.heap.size) : (w.alloc (.cells #[] e)).ownsRow base e size (.slice (some ⟨b, 0, none⟩) 0 0) 0 [] := by
  subst hb; exact own_empty w base e size hb2
theorem rd_grown {w w' : World} {row : Option Nat} {g o : Nat} {cs : List Value} (hg : w.grownBy w' row) (h : Rd w (some ⟨g, o, none⟩) cs) (hlt : g < w.heap.size) (hne : some g ≠ row) : Rd w' (some ⟨g, o, none⟩) cs := by
  rcases h with h | ⟨g', o', e, hg', hc⟩
  · exact .inl h
  · injection e with e
    injection e with e1 e2
    subst e1; subst e2
    exact .inr ⟨g, o, rfl, Nat.lt_of_lt_of_le hg' hg.size, fun j v hv => (hg.cell_far ⟨g, o + j, none⟩ hg' hne).trans (hc j v hv)⟩

theorem ins_bad {xs : List R5} {x : R5} {k : Nat} (h : insB x = false) : insL (xs.take k ++ x :: xs.drop k) = false := by
  cases e : insL (xs.take k ++ x :: xs.drop k) with
  | false => rfl
  | true =>
    simp only [insL, Bool.and_eq_true] at e
    have hx : (xs.take k ++ x :: xs.drop k)[(xs.take k).length]? = some x := by simp
    have := allG_at e.1 hx
    rw [h] at this; cases this
/-- What the reference puts together, at place k. -/
def putL (xs : List R5) (x : R5) (k : Nat) : List R5 := xs.take k ++ x :: xs.drop k
theorem putL_len {xs : List R5} {k : Nat} (x : R5) (h : k ≤ xs.length) : (putL xs x k).length = xs.length + 1 := by
  rw [putL, List.length_append, List.length_cons, List.length_take, List.length_drop]; omega
theorem cells5_putL (xs : List R5) (x : R5) (k : Nat) : cells5 (putL xs x k) = cells5 (xs.take k) ++ (x.cells ++ cells5 (xs.drop k)) := by
  rw [putL, cells5_append, cells5_cons]
theorem ad_pos {xs : List R5} {x : R5} {k : Nat} (hv : insL xs = true) (hk : k ≤ xs.length) (h1 : ∀ (j : Nat) (y : R5), k ≤ j → xs[j]? = some y → insBefore y x = false) (h2 : k = 0 ∨ ∃ y, xs[k - 1]? = some y ∧ insBefore y x = true) : posV xs x = k := by
  refine posV_eq hk (fun j y hj hy => ?_) (fun y hy => h1 k y (Nat.le_refl _) hy)
  rcases h2 with h | ⟨z, hz, hb⟩
  · omega
  · rcases Nat.lt_or_ge j (k - 1) with hlt | hge
    · exact insBefore_trans (insL_sorted hv hlt hy hz) hb
    · obtain rfl : j = k - 1 := by omega
      obtain rfl : y = z := Option.some.inj (hy.symm.trans hz)
      exact hb
/-- What the reference answers. -/
theorem ad_val {xs : List R5} {x : R5} {k : Nat} (hv : insL xs = true) (hp : posV xs x = k) : sgB xs x = insL (putL xs x k) ∧ sgV xs x = sgW (insL (putL xs x k)) (putL xs x k) := by
  have e : sgL xs x = putL xs x k := by rw [sgL, hp]; rfl
  have hb : sgB xs x = insL (putL xs x k) := by
    rw [sgB, hv, e]
    cases h : insB x with
    | true => simp
    | false => rw [putL, ins_bad h]; rfl
  exact ⟨hb, by rw [sgV, hb, e, sgW]⟩

set_option maxRecDepth 20000 in
set_option maxHeartbeats 4000000 in
theorem specAddInsurance_any {lo : Nat} (A : Option Addr) (n c : Nat) (xs : List R5) (x : R5) (w : World) (hn : xs.length = n) (hA : w.ownsRow lo 26 5 (.slice A n c) n (cells5 xs)) (h20 : n ≤ 1048576) :
    Calls Try.prog 7 #[.slice A n c, .agg #[.int .i64 x.a, .int .i64 x.b, .int .i64 x.c, .int .i64 x.d, .int .i64 x.e]] w (RetOwnB 26 5 (sgV xs x).length (cells5 (sgV xs x)) (sgB xs x) w) := by
  have C0 := Lib.hid (fun w h => l26Good_any A n c xs w hn h h20)
  have HR0 := Lib.hid (Rd.of_own hA)
  have HN := Lib.hid hn
  have hcap : n ≤ c ∧ c ≤ maxLen ∧ (A = none ∧ n = 0 ∧ c = 0 ∨ ∃ g, A = some ⟨g, 0, none⟩) := by
    rcases hA.2 with ⟨h1, h2⟩ | ⟨g, cap, cur, h1, _, _, h2, h3, _⟩
    · injection h1 with e1 e2 e3; exact ⟨by omega, by omega, .inl ⟨e1, h2, e3⟩⟩
    · injection h1 with e1 e2 e3; exact ⟨by omega, by omega, .inr ⟨g, e1⟩⟩
  obtain ⟨hnc, hcm, hform⟩ := hcap
  unfold maxLen at hcm
  clear hn hA
  cases hv : insL xs with
  | false =>
    rw [hv] at C0
    have e : sgB xs x = false := by simp [sgB, hv]
    rw [show sgV xs x = [] by simp [sgV, e], e]
    clear e hv
    go_enter Try.func7, Try.ntmps7
    go_wp2_with fail
    refine (C0.out _ (HR0.out.alloc _)).mono ?_
    rintro e w1 ⟨rfl, b1⟩
    go_wp2
    go_ret2
    have hb := ((Below.refl w.heap.size w).alloc (Nat.le_refl _) (Obj.cells #[.int .i64 x.a, .int .i64 x.b, .int .i64 x.c, .int .i64 x.d, .int .i64 x.e] 26)).trans (b1.mono (by simp))
    exact ⟨_, rfl, own_empty _ _ _ _ hb.size, hb.alloc hb.size _⟩
  | true =>
    have n12 := insL_len hv
    rw [HN.out] at n12
    have C5 := Lib.hid (fun k A' c' w (hk : k ≤ n) h => l26Good_any A' (n + 1) c' (putL xs x k) w (by rw [putL_len x (by have := HN.out; omega), HN.out]) h (by omega))
    rw [hv] at C0
    have HV := Lib.hid hv
    clear hv
    go_enter Try.func7, Try.ntmps7
    go_wp2_with fail
    refine (C0.out _ (HR0.out.alloc _)).mono ?_
    rintro e w1 ⟨rfl, b1⟩
    have B1 := Lib.hid (Below.trans (Below.refl (w.heap.size + 1) (w.alloc (Obj.cells #[.int .i64 x.a, .int .i64 x.b, .int .i64 x.c, .int .i64 x.d, .int .i64 x.e] 26))) (b1.mono (by simp)))
    clear b1
    go_wp2_with fail
    go_loopw [6] (fun i wr => ∃ k : Nat, k ≤ n ∧ i = .int .i64 k ∧ (∀ (j : Nat) (y : R5), k ≤ j → xs[j]? = some y → insBefore y x = false) ∧ Below (w.heap.size + 1) (w.alloc (Obj.cells #[.int .i64 x.a, .int .i64 x.b, .int .i64 x.c, .int .i64 x.d, .int .i64 x.e] 26)) wr) (fun i _ => (intOf i).toNat)
    case atStart => exact ⟨n, Nat.le_refl _, rfl, fun j y hj hy => by have := (List.getElem?_eq_some_iff.1 hy).1; have := HN.out; omega, B1.out⟩
    case round =>
      obtain ⟨k, hkn, rfl, hall, hbr⟩ := hrel
      have HAL := Lib.hid hall
      have HKN := Lib.hid hkn
      have hsr := hbr.size
      simp only [World.size_alloc] at hsr
      have hslr : w.heap.size < wr.heap.size := by omega
      have HBR := Lib.hid (((Below.refl w.heap.size w).alloc (Nat.le_refl _) (Obj.cells #[.int .i64 x.a, .int .i64 x.b, .int .i64 x.c, .int .i64 x.d, .int .i64 x.e] 26)).trans (hbr.mono (by omega)))
      have f0 := (hbr.cell (p := ⟨w.heap.size, 0, none⟩) (by simp)).trans (World.cell?_alloc_at _ _ _ _ rfl)
      have f1 := (hbr.cell (p := ⟨w.heap.size, 1, none⟩) (by simp)).trans (World.cell?_alloc_at _ _ _ _ rfl)
      have f2 := (hbr.cell (p := ⟨w.heap.size, 2, none⟩) (by simp)).trans (World.cell?_alloc_at _ _ _ _ rfl)
      have f3 := (hbr.cell (p := ⟨w.heap.size, 3, none⟩) (by simp)).trans (World.cell?_alloc_at _ _ _ _ rfl)
      have f4 := (hbr.cell (p := ⟨w.heap.size, 4, none⟩) (by simp)).trans (World.cell?_alloc_at _ _ _ _ rfl)
      have HR := Lib.hid (HR0.out.below HBR.out)
      clear hall
      have q0 : (0 : Int) ≤ (k : Int) := by omega
      have q1 : (k : Int) ≤ (n : Int) := by omega
      have q2 : (k : Int) ≤ (c : Int) := by omega
      have q3 : k ≤ c := by omega
      have q4 : (n : Int) ≤ (c : Int) := by omega
      by_cases hk0 : 0 < k
      · obtain ⟨m, hm⟩ : ∃ m, k = m + 1 := ⟨k - 1, by omega⟩
        obtain ⟨y, hym⟩ : ∃ y, xs[m]? = some y := ⟨xs[m]'(by have := HN.out; omega), List.getElem?_eq_getElem _⟩
        rcases hform with ⟨hA0, hn0, hc0⟩ | ⟨g, hAg⟩
        · omega
        subst hAg
        obtain ⟨g0, o0, hAe, hg, c0, c1, c2, c3, c4⟩ := HR.out.at5 hym
        injection hAe with hAe
        injection hAe with e1 e2
        subst e1; subst e2
        rw [Nat.zero_add] at c0 c1 c2 c3 c4
        have HYM := Lib.hid hym
        have C1 := Lib.hid (fun w => l26Before_any y x w)
        have e0 : decide ((0 : Int) < (k : Int)) = true := decide_eq_true (by omega)
        have hkm : (k : Int) - 1 = (m : Int) := by omega
        have hm1 : m < n := by omega
        have HM := Lib.hid hm
        clear hym hm
        cases hq : insBefore y x with
        | false =>
          rw [hq] at C1
          have HALL2 : Hid (∀ (t : Nat) (z : R5), m ≤ t → xs[t]? = some z → insBefore z x = false) := Lib.hid (fun t z ht hz => by
            rcases Nat.lt_or_eq_of_le ht with h | h
            · exact HAL.out t z (by have := HM.out; omega) hz
            · subst h; obtain rfl := Option.some.inj (HYM.out.symm.trans hz); exact hq)
          clear hq
          go_wp2_with fail
          refine wp_region_lat wr.heap.size (by kernel_rfl) (by kernel_rfl) ?_
          have LC := fun (u : Lat wr.heap.size wr) => u.cell
          repeat (go_big_quiet_step ((go_at_call 36; (with_reducible exact lat_call _ (Nat.le_refl _) (C1.out _)))))
          refine wpQuiet_nil ?_
          intro w2 b2
          have HB2 := Lib.hid (hbr.trans (b2.mono (by omega)))
          clear LC c0 c1 c2 c3 c4 f0 f1 f2 f3 f4
          go_wp2
          go_roundw
          case rel => exact ⟨m, by omega, rfl, HALL2.out, HB2.out⟩
          case measure => simp [intOf]; omega
        | true =>
          rw [hq] at C1
          have HH2 : Hid (k = 0 ∨ ∃ y, xs[k - 1]? = some y ∧ insBefore y x = true) := Lib.hid (.inr ⟨y, by rw [HM.out, Nat.add_sub_cancel]; exact HYM.out, hq⟩)
          clear hq
          go_wp2_with fail
          refine wp_region_lat wr.heap.size (by kernel_rfl) (by kernel_rfl) ?_
          have LC := fun (u : Lat wr.heap.size wr) => u.cell
          repeat (go_big_quiet_step ((go_at_call 36; (with_reducible exact lat_call _ (Nat.le_refl _) (C1.out _)))))
          refine wpQuiet_nil ?_
          intro w2 b2
          have f0' := (b2.cell (p := ⟨w.heap.size, 0, none⟩) hslr).trans f0
          have f1' := (b2.cell (p := ⟨w.heap.size, 1, none⟩) hslr).trans f1
          have f2' := (b2.cell (p := ⟨w.heap.size, 2, none⟩) hslr).trans f2
          have f3' := (b2.cell (p := ⟨w.heap.size, 3, none⟩) hslr).trans f3
          have f4' := (b2.cell (p := ⟨w.heap.size, 4, none⟩) hslr).trans f4
          have HR2 := Lib.hid (HR.out.below b2)
          have HBR2 := Lib.hid (HBR.out.trans (b2.mono HBR.out.size))
          have hs2 := b2.size
          have hslr2 : w.heap.size < w2.heap.size := by omega
          clear LC c0 c1 c2 c3 c4 f0 f1 f2 f3 f4 HR HBR hslr hsr hbr b2 hs2 hkm e0 hm1
          have f0 := f0'
          have f1 := f1'
          have f2 := f2'
          have f3 := f3'
          have f4 := f4'
          have HR := HR2
          have HBR := HBR2
          have hslr := hslr2
          clear f0' f1' f2' f3' f4' HR2 HBR2 hslr2
          have HAV := Lib.hid (ad_val HV.out (ad_pos HV.out (by have := HN.out; omega) HAL.out HH2.out))
          by_cases hkc : k = c
          · obtain rfl : n = k := by omega
            subst hkc
            go_wp2_with fail
            have HK5 := Lib.hid (show (cells5 (xs.take n)).length = n * 5 by have h2 := length_cells5 (xs.take n); rw [List.length_take] at h2; have := HN.out; omega)
            have HD5 := Lib.hid (show (cells5 (xs.drop n)).length = 0 * 5 by have h2 := length_cells5 (xs.drop n); rw [List.length_drop] at h2; have := HN.out; omega)
            have HX5 := Lib.hid (show x.cells.length = 1 * 5 from rfl)
            have OA : Hid (((w2.alloc (.cells #[] 26)).drew).ownsRow w2.heap.size 26 5 (.slice (some ⟨w2.heap.size, 0, none⟩) 0 0) 0 []) := Lib.hid (own_empty w2 _ _ _ (Nat.le_refl _))
            have BBA : Hid (Below w2.heap.size w2 ((w2.alloc (.cells #[] 26)).drew)) := Lib.hid ((Below.refl _ _).alloc (Nat.le_refl _) _).drew
            have RAA : Hid (Rd ((w2.alloc (.cells #[] 26)).drew) (some ⟨g, 0, none⟩) (cells5 (xs.take n))) := Lib.hid (rd_takeT (HR.out.below BBA.out) n)
            have OB : Hid ((((w2.alloc (.cells #[] 26)).alloc (.cells #[.int .i64 x.a, .int .i64 x.b, .int .i64 x.c, .int .i64 x.d, .int .i64 x.e] 26)).drew).ownsRow w2.heap.size 26 5 (.slice (some ⟨w2.heap.size, 0, none⟩) 0 0) 0 []) := Lib.hid ((own_empty w2 _ _ _ (Nat.le_refl _)).alloc _)
            have BBB : Hid (Below w2.heap.size w2 (((w2.alloc (.cells #[] 26)).alloc (.cells #[.int .i64 x.a, .int .i64 x.b, .int .i64 x.c, .int .i64 x.d, .int .i64 x.e] 26)).drew)) := Lib.hid ((((Below.refl _ _).alloc (Nat.le_refl _) _).alloc (by simp) _).drew)
            have RXB : Hid (Rd (((w2.alloc (.cells #[] 26)).alloc (.cells #[.int .i64 x.a, .int .i64 x.b, .int .i64 x.c, .int .i64 x.d, .int .i64 x.e] 26)).drew) (some ⟨w2.heap.size + 1, 0, none⟩) x.cells) := Lib.hid (rd_new #[.int .i64 x.a, .int .i64 x.b, .int .i64 x.c, .int .i64 x.d, .int .i64 x.e] 26 (by simp))
            have RAB : Hid (Rd (((w2.alloc (.cells #[] 26)).alloc (.cells #[.int .i64 x.a, .int .i64 x.b, .int .i64 x.c, .int .i64 x.d, .int .i64 x.e] 26)).drew) (some ⟨g, 0, none⟩) (cells5 (xs.take n))) := Lib.hid (rd_takeT (HR.out.below BBB.out) n)
            have OC : Hid ((((w2.alloc (.cells #[.int .i64 x.a, .int .i64 x.b, .int .i64 x.c, .int .i64 x.d, .int .i64 x.e] 26)).alloc (.cells #[] 26)).drew).ownsRow w2.heap.size 26 5 (.slice (some ⟨w2.heap.size + 1, 0, none⟩) 0 0) 0 []) := Lib.hid (own_empty' (by simp) (by simp))
            have BBC : Hid (Below w2.heap.size w2 (((w2.alloc (.cells #[.int .i64 x.a, .int .i64 x.b, .int .i64 x.c, .int .i64 x.d, .int .i64 x.e] 26)).alloc (.cells #[] 26)).drew)) := Lib.hid ((((Below.refl _ _).alloc (Nat.le_refl _) _).alloc (by simp) _).drew)
            have RXC : Hid (Rd (((w2.alloc (.cells #[.int .i64 x.a, .int .i64 x.b, .int .i64 x.c, .int .i64 x.d, .int .i64 x.e] 26)).alloc (.cells #[] 26)).drew) (some ⟨w2.heap.size, 0, none⟩) x.cells) := Lib.hid ((rd_new #[.int .i64 x.a, .int .i64 x.b, .int .i64 x.c, .int .i64 x.d, .int .i64 x.e] 26 rfl).alloc _)
            have RAC : Hid (Rd (((w2.alloc (.cells #[.int .i64 x.a, .int .i64 x.b, .int .i64 x.c, .int .i64 x.d, .int .i64 x.e] 26)).alloc (.cells #[] 26)).drew) (some ⟨g, 0, none⟩) (cells5 (xs.take n))) := Lib.hid (rd_takeT (HR.out.below BBC.out) n)
            go_region_held3 (fun w' => w'.cell? ⟨w.heap.size, 0, none⟩ = some (.int .i64 x.a) ∧ w'.cell? ⟨w.heap.size, 1, none⟩ = some (.int .i64 x.b) ∧ w'.cell? ⟨w.heap.size, 2, none⟩ = some (.int .i64 x.c) ∧ w'.cell? ⟨w.heap.size, 3, none⟩ = some (.int .i64 x.d) ∧ w'.cell? ⟨w.heap.size, 4, none⟩ = some (.int .i64 x.e)) (first | go_keep | exact ⟨(B6.cell (p := ⟨w.heap.size, 0, none⟩) hslr).trans f0, (B6.cell (p := ⟨w.heap.size, 1, none⟩) hslr).trans f1, (B6.cell (p := ⟨w.heap.size, 2, none⟩) hslr).trans f2, (B6.cell (p := ⟨w.heap.size, 3, none⟩) hslr).trans f3, (B6.cell (p := ⟨w.heap.size, 4, none⟩) hslr).trans f4⟩ | exact ⟨(B5.cell (p := ⟨w.heap.size, 0, none⟩) hslr).trans f0, (B5.cell (p := ⟨w.heap.size, 1, none⟩) hslr).trans f1, (B5.cell (p := ⟨w.heap.size, 2, none⟩) hslr).trans f2, (B5.cell (p := ⟨w.heap.size, 3, none⟩) hslr).trans f3, (B5.cell (p := ⟨w.heap.size, 4, none⟩) hslr).trans f4⟩ | exact ⟨(B4.cell (p := ⟨w.heap.size, 0, none⟩) hslr).trans f0, (B4.cell (p := ⟨w.heap.size, 1, none⟩) hslr).trans f1, (B4.cell (p := ⟨w.heap.size, 2, none⟩) hslr).trans f2, (B4.cell (p := ⟨w.heap.size, 3, none⟩) hslr).trans f3, (B4.cell (p := ⟨w.heap.size, 4, none⟩) hslr).trans f4⟩) (first
              | (refine step_app rfl (.tmp 28) (.tmp 31) 24 rfl w2.heap.size 26 _ 5 40 Try.underlying24 info26 rfl (by omega) (.slice (some ⟨w2.heap.size, 0, none⟩) 0 0) 0 [] (by simp [Act.eval, Act.put]) (by with_reducible exact OA.out) (some ⟨g, 0, none⟩) n n (cells5 (xs.take n)) (by simp [Act.eval, Act.put]) HK5.out (RAA.out) (oneCell_cells5 _) (by unfold maxLen; omega) (by omega) (by first | exact Nat.le_refl _ | exact B4.size | exact (B4.alloc B4.size _).size | exact B5.size | (simp <;> omega)) ?_; intro v4 w4 o4 g4w _; have B4 := BBA.out.grown g4w BBA.out.size (fun j hj => (OA.out.lt j hj).1))
              | (refine step_app rfl (.tmp 28) (.tmp 31) 24 rfl w2.heap.size 26 _ 5 40 Try.underlying24 info26 rfl (by omega) (.slice (some ⟨w2.heap.size, 0, none⟩) 0 0) 0 [] (by simp [Act.eval, Act.put]) (by with_reducible exact OB.out) (some ⟨g, 0, none⟩) n n (cells5 (xs.take n)) (by simp [Act.eval, Act.put]) HK5.out (RAB.out) (oneCell_cells5 _) (by unfold maxLen; omega) (by omega) (by first | exact Nat.le_refl _ | exact B4.size | exact (B4.alloc B4.size _).size | exact B5.size | (simp <;> omega)) ?_; intro v4 w4 o4 g4w _; have B4 := BBB.out.grown g4w BBB.out.size (fun j hj => (OB.out.lt j hj).1); have RX4 := rd_grown g4w RXB.out (by simp <;> omega) (by simp [Value.ownBlock]))
              | (refine step_app rfl (.tmp 28) (.tmp 31) 24 rfl w2.heap.size 26 _ 5 40 Try.underlying24 info26 rfl (by omega) (.slice (some ⟨w2.heap.size + 1, 0, none⟩) 0 0) 0 [] (by simp [Act.eval, Act.put]) (by with_reducible exact OC.out) (some ⟨g, 0, none⟩) n n (cells5 (xs.take n)) (by simp [Act.eval, Act.put]) HK5.out (RAC.out) (oneCell_cells5 _) (by unfold maxLen; omega) (by omega) (by first | exact Nat.le_refl _ | exact B4.size | exact (B4.alloc B4.size _).size | exact B5.size | (simp <;> omega)) ?_; intro v4 w4 o4 g4w _; have B4 := BBC.out.grown g4w BBC.out.size (fun j hj => (OC.out.lt j hj).1); have RX4 := rd_grown g4w RXC.out (by simp <;> omega) (by simp [Value.ownBlock]))
              | (refine step_app rfl (.tmp 32) (.tmp 34) 24 rfl w2.heap.size 26 _ 5 40 Try.underlying24 info26 rfl (by omega) v4 _ _ (by simp [Act.eval, Act.put]) (by with_reducible exact o4.alloc _) (some ⟨w4.heap.size, 0, none⟩) 1 1 x.cells (by simp [Act.eval, Act.put]) HX5.out (rd_new #[.int .i64 x.a, .int .i64 x.b, .int .i64 x.c, .int .i64 x.d, .int .i64 x.e] 26 rfl) (oneCell_x x) (by unfold maxLen; omega) (by omega) (by first | exact Nat.le_refl _ | exact B4.size | exact (B4.alloc B4.size _).size | exact B5.size | (simp <;> omega)) ?_; intro v5 w5 o5 g5w _; have B5 : Below w2.heap.size w2 w5 := (B4.alloc B4.size _).grown g5w (B4.alloc B4.size _).size (fun j hj => (o4.lt j hj).1))
              | (refine step_app rfl (.tmp 32) (.tmp 34) 24 rfl w2.heap.size 26 _ 5 40 Try.underlying24 info26 rfl (by omega) v4 _ _ (by simp [Act.eval, Act.put]) (by with_reducible exact o4) (some ⟨(w2.heap.size + 1), 0, none⟩) 1 1 x.cells (by simp [Act.eval, Act.put]) HX5.out (RX4) (oneCell_x x) (by unfold maxLen; omega) (by omega) (by first | exact Nat.le_refl _ | exact B4.size | exact (B4.alloc B4.size _).size | exact B5.size | (simp <;> omega)) ?_; intro v5 w5 o5 g5w _; have B5 : Below w2.heap.size w2 w5 := B4.grown g5w B4.size (fun j hj => (o4.lt j hj).1))
              | (refine step_app rfl (.tmp 32) (.tmp 34) 24 rfl w2.heap.size 26 _ 5 40 Try.underlying24 info26 rfl (by omega) v4 _ _ (by simp [Act.eval, Act.put]) (by with_reducible exact o4) (some ⟨w2.heap.size, 0, none⟩) 1 1 x.cells (by simp [Act.eval, Act.put]) HX5.out (RX4) (oneCell_x x) (by unfold maxLen; omega) (by omega) (by first | exact Nat.le_refl _ | exact B4.size | exact (B4.alloc B4.size _).size | exact B5.size | (simp <;> omega)) ?_; intro v5 w5 o5 g5w _; have B5 : Below w2.heap.size w2 w5 := B4.grown g5w B4.size (fun j hj => (o4.lt j hj).1))
              | (refine step_app rfl (.tmp 35) (.tmp 38) 24 rfl w2.heap.size 26 _ 5 40 Try.underlying24 info26 rfl (by omega) v5 _ _ (by simp [Act.eval, Act.put]) (by with_reducible exact o5) (some ⟨g, 0, none⟩) 0 (n - n) (cells5 (xs.drop n)) (by simp [Act.eval, Act.put]) HD5.out (.inl (List.eq_nil_of_length_eq_zero HD5.out)) (oneCell_cells5 _) (by unfold maxLen; omega) (by omega) (by first | exact Nat.le_refl _ | exact B4.size | exact (B4.alloc B4.size _).size | exact B5.size | (simp <;> omega)) ?_; intro v6 w6 o6 g6w _; have B6 : Below w2.heap.size w2 w6 := B5.grown g6w B5.size (fun j hj => (o5.lt j hj).1)))
            all_goals go_goals
            all_goals (
              have EC : [] ++ cells5 (xs.take n) ++ x.cells ++ cells5 (xs.drop n) = cells5 (putL xs x n) := by rw [cells5_putL, List.nil_append, List.append_assoc]
              have EN : 0 + n + 1 + 0 = n + 1 := by omega
              rw [EC, EN] at o6
              clear EC EN
              have hb6 : Below w.heap.size w w6 := HBR.out.trans (B6.mono HBR.out.size)
              have o6' := own_mono o6 HBR.out.size
              obtain ⟨A', c', rfl⟩ := own_form o6'
              have R6 := Lib.hid (Rd.of_own o6')
              have O6 := Lib.hid o6'
              clear o6 o6' o5 o4 g4w g5w g6w B4 B5 B6 f0 f1 f2 f3 f4 OA OB OC BBA BBB BBC RAA RAB RAC RXB RXC
              go_wp2_with fail
              refine (C5.out n _ _ _ HKN.out R6.out).mono ?_
              rintro e w7 ⟨rfl, b7⟩
              have HB7 := hb6.trans (b7.mono hb6.size)
              have O7 := own_below O6.out b7
              obtain ⟨z, hz⟩ : ∃ z, z = insL (putL xs x n) := ⟨_, rfl⟩
              rw [← hz]
              have HZ := Lib.hid hz
              have HPL : Hid ((putL xs x n).length = n + 1) := Lib.hid (by rw [putL_len x (by have := HN.out; have := HKN.out; omega), HN.out])
              clear hz
              cases z with
              | true =>
                go_wp2
                go_ret2
                rw [HAV.out.1, HAV.out.2, ← HZ.out]
                refine ⟨.slice A' (n + 1) c', rfl, ?_, HB7⟩
                simp only [sgW, if_true, HPL.out]
                exact O7
              | false =>
                go_wp2
                go_ret2
                rw [HAV.out.1, HAV.out.2, ← HZ.out]
                exact ⟨_, rfl, own_empty _ _ _ _ HB7.size, HB7.alloc HB7.size _⟩)
          · have hck : ¬ c = k := by omega
            by_cases hkn2 : n = k
            · obtain rfl := hkn2
              go_wp2_with fail
              have HK5 := Lib.hid (show (cells5 (xs.take n)).length = n * 5 by have h2 := length_cells5 (xs.take n); rw [List.length_take] at h2; have := HN.out; omega)
              have HD5 := Lib.hid (show (cells5 (xs.drop n)).length = 0 * 5 by have h2 := length_cells5 (xs.drop n); rw [List.length_drop] at h2; have := HN.out; omega)
              have HX5 := Lib.hid (show x.cells.length = 1 * 5 from rfl)
              have OA : Hid (((w2.alloc (.cells #[] 26)).drew).ownsRow w2.heap.size 26 5 (.slice (some ⟨w2.heap.size, 0, none⟩) 0 0) 0 []) := Lib.hid (own_empty w2 _ _ _ (Nat.le_refl _))
              have BBA : Hid (Below w2.heap.size w2 ((w2.alloc (.cells #[] 26)).drew)) := Lib.hid ((Below.refl _ _).alloc (Nat.le_refl _) _).drew
              have RAA : Hid (Rd ((w2.alloc (.cells #[] 26)).drew) (some ⟨g, 0, none⟩) (cells5 (xs.take n))) := Lib.hid (rd_takeT (HR.out.below BBA.out) n)
              have OB : Hid ((((w2.alloc (.cells #[] 26)).alloc (.cells #[.int .i64 x.a, .int .i64 x.b, .int .i64 x.c, .int .i64 x.d, .int .i64 x.e] 26)).drew).ownsRow w2.heap.size 26 5 (.slice (some ⟨w2.heap.size, 0, none⟩) 0 0) 0 []) := Lib.hid ((own_empty w2 _ _ _ (Nat.le_refl _)).alloc _)
              have BBB : Hid (Below w2.heap.size w2 (((w2.alloc (.cells #[] 26)).alloc (.cells #[.int .i64 x.a, .int .i64 x.b, .int .i64 x.c, .int .i64 x.d, .int .i64 x.e] 26)).drew)) := Lib.hid ((((Below.refl _ _).alloc (Nat.le_refl _) _).alloc (by simp) _).drew)
              have RXB : Hid (Rd (((w2.alloc (.cells #[] 26)).alloc (.cells #[.int .i64 x.a, .int .i64 x.b, .int .i64 x.c, .int .i64 x.d, .int .i64 x.e] 26)).drew) (some ⟨w2.heap.size + 1, 0, none⟩) x.cells) := Lib.hid (rd_new #[.int .i64 x.a, .int .i64 x.b, .int .i64 x.c, .int .i64 x.d, .int .i64 x.e] 26 (by simp))
              have RAB : Hid (Rd (((w2.alloc (.cells #[] 26)).alloc (.cells #[.int .i64 x.a, .int .i64 x.b, .int .i64 x.c, .int .i64 x.d, .int .i64 x.e] 26)).drew) (some ⟨g, 0, none⟩) (cells5 (xs.take n))) := Lib.hid (rd_takeT (HR.out.below BBB.out) n)
              have OC : Hid ((((w2.alloc (.cells #[.int .i64 x.a, .int .i64 x.b, .int .i64 x.c, .int .i64 x.d, .int .i64 x.e] 26)).alloc (.cells #[] 26)).drew).ownsRow w2.heap.size 26 5 (.slice (some ⟨w2.heap.size + 1, 0, none⟩) 0 0) 0 []) := Lib.hid (own_empty' (by simp) (by simp))
              have BBC : Hid (Below w2.heap.size w2 (((w2.alloc (.cells #[.int .i64 x.a, .int .i64 x.b, .int .i64 x.c, .int .i64 x.d, .int .i64 x.e] 26)).alloc (.cells #[] 26)).drew)) := Lib.hid ((((Below.refl _ _).alloc (Nat.le_refl _) _).alloc (by simp) _).drew)
              have RXC : Hid (Rd (((w2.alloc (.cells #[.int .i64 x.a, .int .i64 x.b, .int .i64 x.c, .int .i64 x.d, .int .i64 x.e] 26)).alloc (.cells #[] 26)).drew) (some ⟨w2.heap.size, 0, none⟩) x.cells) := Lib.hid ((rd_new #[.int .i64 x.a, .int .i64 x.b, .int .i64 x.c, .int .i64 x.d, .int .i64 x.e] 26 rfl).alloc _)
              have RAC : Hid (Rd (((w2.alloc (.cells #[.int .i64 x.a, .int .i64 x.b, .int .i64 x.c, .int .i64 x.d, .int .i64 x.e] 26)).alloc (.cells #[] 26)).drew) (some ⟨g, 0, none⟩) (cells5 (xs.take n))) := Lib.hid (rd_takeT (HR.out.below BBC.out) n)
              go_region_held3 (fun w' => w'.cell? ⟨w.heap.size, 0, none⟩ = some (.int .i64 x.a) ∧ w'.cell? ⟨w.heap.size, 1, none⟩ = some (.int .i64 x.b) ∧ w'.cell? ⟨w.heap.size, 2, none⟩ = some (.int .i64 x.c) ∧ w'.cell? ⟨w.heap.size, 3, none⟩ = some (.int .i64 x.d) ∧ w'.cell? ⟨w.heap.size, 4, none⟩ = some (.int .i64 x.e)) (first | go_keep | exact ⟨(B6.cell (p := ⟨w.heap.size, 0, none⟩) hslr).trans f0, (B6.cell (p := ⟨w.heap.size, 1, none⟩) hslr).trans f1, (B6.cell (p := ⟨w.heap.size, 2, none⟩) hslr).trans f2, (B6.cell (p := ⟨w.heap.size, 3, none⟩) hslr).trans f3, (B6.cell (p := ⟨w.heap.size, 4, none⟩) hslr).trans f4⟩ | exact ⟨(B5.cell (p := ⟨w.heap.size, 0, none⟩) hslr).trans f0, (B5.cell (p := ⟨w.heap.size, 1, none⟩) hslr).trans f1, (B5.cell (p := ⟨w.heap.size, 2, none⟩) hslr).trans f2, (B5.cell (p := ⟨w.heap.size, 3, none⟩) hslr).trans f3, (B5.cell (p := ⟨w.heap.size, 4, none⟩) hslr).trans f4⟩ | exact ⟨(B4.cell (p := ⟨w.heap.size, 0, none⟩) hslr).trans f0, (B4.cell (p := ⟨w.heap.size, 1, none⟩) hslr).trans f1, (B4.cell (p := ⟨w.heap.size, 2, none⟩) hslr).trans f2, (B4.cell (p := ⟨w.heap.size, 3, none⟩) hslr).trans f3, (B4.cell (p := ⟨w.heap.size, 4, none⟩) hslr).trans f4⟩) (first
                | (refine step_app rfl (.tmp 28) (.tmp 31) 24 rfl w2.heap.size 26 _ 5 40 Try.underlying24 info26 rfl (by omega) (.slice (some ⟨w2.heap.size, 0, none⟩) 0 0) 0 [] (by simp [Act.eval, Act.put]) (by with_reducible exact OA.out) (some ⟨g, 0, none⟩) n c (cells5 (xs.take n)) (by simp [Act.eval, Act.put]) HK5.out (RAA.out) (oneCell_cells5 _) (by unfold maxLen; omega) (by omega) (by first | exact Nat.le_refl _ | exact B4.size | exact (B4.alloc B4.size _).size | exact B5.size | (simp <;> omega)) ?_; intro v4 w4 o4 g4w _; have B4 := BBA.out.grown g4w BBA.out.size (fun j hj => (OA.out.lt j hj).1))
                | (refine step_app rfl (.tmp 28) (.tmp 31) 24 rfl w2.heap.size 26 _ 5 40 Try.underlying24 info26 rfl (by omega) (.slice (some ⟨w2.heap.size, 0, none⟩) 0 0) 0 [] (by simp [Act.eval, Act.put]) (by with_reducible exact OB.out) (some ⟨g, 0, none⟩) n c (cells5 (xs.take n)) (by simp [Act.eval, Act.put]) HK5.out (RAB.out) (oneCell_cells5 _) (by unfold maxLen; omega) (by omega) (by first | exact Nat.le_refl _ | exact B4.size | exact (B4.alloc B4.size _).size | exact B5.size | (simp <;> omega)) ?_; intro v4 w4 o4 g4w _; have B4 := BBB.out.grown g4w BBB.out.size (fun j hj => (OB.out.lt j hj).1); have RX4 := rd_grown g4w RXB.out (by simp <;> omega) (by simp [Value.ownBlock]))
                | (refine step_app rfl (.tmp 28) (.tmp 31) 24 rfl w2.heap.size 26 _ 5 40 Try.underlying24 info26 rfl (by omega) (.slice (some ⟨w2.heap.size + 1, 0, none⟩) 0 0) 0 [] (by simp [Act.eval, Act.put]) (by with_reducible exact OC.out) (some ⟨g, 0, none⟩) n c (cells5 (xs.take n)) (by simp [Act.eval, Act.put]) HK5.out (RAC.out) (oneCell_cells5 _) (by unfold maxLen; omega) (by omega) (by first | exact Nat.le_refl _ | exact B4.size | exact (B4.alloc B4.size _).size | exact B5.size | (simp <;> omega)) ?_; intro v4 w4 o4 g4w _; have B4 := BBC.out.grown g4w BBC.out.size (fun j hj => (OC.out.lt j hj).1); have RX4 := rd_grown g4w RXC.out (by simp <;> omega) (by simp [Value.ownBlock]))
                | (refine step_app rfl (.tmp 32) (.tmp 34) 24 rfl w2.heap.size 26 _ 5 40 Try.underlying24 info26 rfl (by omega) v4 _ _ (by simp [Act.eval, Act.put]) (by with_reducible exact o4.alloc _) (some ⟨w4.heap.size, 0, none⟩) 1 1 x.cells (by simp [Act.eval, Act.put]) HX5.out (rd_new #[.int .i64 x.a, .int .i64 x.b, .int .i64 x.c, .int .i64 x.d, .int .i64 x.e] 26 rfl) (oneCell_x x) (by unfold maxLen; omega) (by omega) (by first | exact Nat.le_refl _ | exact B4.size | exact (B4.alloc B4.size _).size | exact B5.size | (simp <;> omega)) ?_; intro v5 w5 o5 g5w _; have B5 : Below w2.heap.size w2 w5 := (B4.alloc B4.size _).grown g5w (B4.alloc B4.size _).size (fun j hj => (o4.lt j hj).1))
                | (refine step_app rfl (.tmp 32) (.tmp 34) 24 rfl w2.heap.size 26 _ 5 40 Try.underlying24 info26 rfl (by omega) v4 _ _ (by simp [Act.eval, Act.put]) (by with_reducible exact o4) (some ⟨(w2.heap.size + 1), 0, none⟩) 1 1 x.cells (by simp [Act.eval, Act.put]) HX5.out (RX4) (oneCell_x x) (by unfold maxLen; omega) (by omega) (by first | exact Nat.le_refl _ | exact B4.size | exact (B4.alloc B4.size _).size | exact B5.size | (simp <;> omega)) ?_; intro v5 w5 o5 g5w _; have B5 : Below w2.heap.size w2 w5 := B4.grown g5w B4.size (fun j hj => (o4.lt j hj).1))
                | (refine step_app rfl (.tmp 32) (.tmp 34) 24 rfl w2.heap.size 26 _ 5 40 Try.underlying24 info26 rfl (by omega) v4 _ _ (by simp [Act.eval, Act.put]) (by with_reducible exact o4) (some ⟨w2.heap.size, 0, none⟩) 1 1 x.cells (by simp [Act.eval, Act.put]) HX5.out (RX4) (oneCell_x x) (by unfold maxLen; omega) (by omega) (by first | exact Nat.le_refl _ | exact B4.size | exact (B4.alloc B4.size _).size | exact B5.size | (simp <;> omega)) ?_; intro v5 w5 o5 g5w _; have B5 : Below w2.heap.size w2 w5 := B4.grown g5w B4.size (fun j hj => (o4.lt j hj).1))
                | (refine step_app rfl (.tmp 35) (.tmp 38) 24 rfl w2.heap.size 26 _ 5 40 Try.underlying24 info26 rfl (by omega) v5 _ _ (by simp [Act.eval, Act.put]) (by with_reducible exact o5) (some ⟨g, 0 + n * 5, none⟩) 0 (c - n) (cells5 (xs.drop n)) (by simp [Act.eval, Act.put]) HD5.out (.inl (List.eq_nil_of_length_eq_zero HD5.out)) (oneCell_cells5 _) (by unfold maxLen; omega) (by omega) (by first | exact Nat.le_refl _ | exact B4.size | exact (B4.alloc B4.size _).size | exact B5.size | (simp <;> omega)) ?_; intro v6 w6 o6 g6w _; have B6 : Below w2.heap.size w2 w6 := B5.grown g6w B5.size (fun j hj => (o5.lt j hj).1)))
              all_goals go_goals
              all_goals (
                have EC : [] ++ cells5 (xs.take n) ++ x.cells ++ cells5 (xs.drop n) = cells5 (putL xs x n) := by rw [cells5_putL, List.nil_append, List.append_assoc]
                have EN : 0 + n + 1 + 0 = n + 1 := by omega
                rw [EC, EN] at o6
                clear EC EN
                have hb6 : Below w.heap.size w w6 := HBR.out.trans (B6.mono HBR.out.size)
                have o6' := own_mono o6 HBR.out.size
                obtain ⟨A', c', rfl⟩ := own_form o6'
                have R6 := Lib.hid (Rd.of_own o6')
                have O6 := Lib.hid o6'
                clear o6 o6' o5 o4 g4w g5w g6w B4 B5 B6 f0 f1 f2 f3 f4 OA OB OC BBA BBB BBC RAA RAB RAC RXB RXC
                go_wp2_with fail
                refine (C5.out n _ _ _ HKN.out R6.out).mono ?_
                rintro e w7 ⟨rfl, b7⟩
                have HB7 := hb6.trans (b7.mono hb6.size)
                have O7 := own_below O6.out b7
                obtain ⟨z, hz⟩ : ∃ z, z = insL (putL xs x n) := ⟨_, rfl⟩
                rw [← hz]
                have HZ := Lib.hid hz
                have HPL : Hid ((putL xs x n).length = n + 1) := Lib.hid (by rw [putL_len x (by have := HN.out; have := HKN.out; omega), HN.out])
                clear hz
                cases z with
                | true =>
                  go_wp2
                  go_ret2
                  rw [HAV.out.1, HAV.out.2, ← HZ.out]
                  refine ⟨.slice A' (n + 1) c', rfl, ?_, HB7⟩
                  simp only [sgW, if_true, HPL.out]
                  exact O7
                | false =>
                  go_wp2
                  go_ret2
                  rw [HAV.out.1, HAV.out.2, ← HZ.out]
                  exact ⟨_, rfl, own_empty _ _ _ _ HB7.size, HB7.alloc HB7.size _⟩)
            · go_wp2_with fail
              have HK5 := Lib.hid (show (cells5 (xs.take k)).length = k * 5 by have h2 := length_cells5 (xs.take k); rw [List.length_take] at h2; have := HN.out; omega)
              have HD5 := Lib.hid (show (cells5 (xs.drop k)).length = (n - k) * 5 by have h2 := length_cells5 (xs.drop k); rw [List.length_drop] at h2; have := HN.out; omega)
              have HX5 := Lib.hid (show x.cells.length = 1 * 5 from rfl)
              have OA : Hid (((w2.alloc (.cells #[] 26)).drew).ownsRow w2.heap.size 26 5 (.slice (some ⟨w2.heap.size, 0, none⟩) 0 0) 0 []) := Lib.hid (own_empty w2 _ _ _ (Nat.le_refl _))
              have BBA : Hid (Below w2.heap.size w2 ((w2.alloc (.cells #[] 26)).drew)) := Lib.hid ((Below.refl _ _).alloc (Nat.le_refl _) _).drew
              have RAA : Hid (Rd ((w2.alloc (.cells #[] 26)).drew) (some ⟨g, 0, none⟩) (cells5 (xs.take k))) := Lib.hid (rd_takeT (HR.out.below BBA.out) k)
              have OB : Hid ((((w2.alloc (.cells #[] 26)).alloc (.cells #[.int .i64 x.a, .int .i64 x.b, .int .i64 x.c, .int .i64 x.d, .int .i64 x.e] 26)).drew).ownsRow w2.heap.size 26 5 (.slice (some ⟨w2.heap.size, 0, none⟩) 0 0) 0 []) := Lib.hid ((own_empty w2 _ _ _ (Nat.le_refl _)).alloc _)
              have BBB : Hid (Below w2.heap.size w2 (((w2.alloc (.cells #[] 26)).alloc (.cells #[.int .i64 x.a, .int .i64 x.b, .int .i64 x.c, .int .i64 x.d, .int .i64 x.e] 26)).drew)) := Lib.hid ((((Below.refl _ _).alloc (Nat.le_refl _) _).alloc (by simp) _).drew)
              have RXB : Hid (Rd (((w2.alloc (.cells #[] 26)).alloc (.cells #[.int .i64 x.a, .int .i64 x.b, .int .i64 x.c, .int .i64 x.d, .int .i64 x.e] 26)).drew) (some ⟨w2.heap.size + 1, 0, none⟩) x.cells) := Lib.hid (rd_new #[.int .i64 x.a, .int .i64 x.b, .int .i64 x.c, .int .i64 x.d, .int .i64 x.e] 26 (by simp))
              have RAB : Hid (Rd (((w2.alloc (.cells #[] 26)).alloc (.cells #[.int .i64 x.a, .int .i64 x.b, .int .i64 x.c, .int .i64 x.d, .int .i64 x.e] 26)).drew) (some ⟨g, 0, none⟩) (cells5 (xs.take k))) := Lib.hid (rd_takeT (HR.out.below BBB.out) k)
              have OC : Hid ((((w2.alloc (.cells #[.int .i64 x.a, .int .i64 x.b, .int .i64 x.c, .int .i64 x.d, .int .i64 x.e] 26)).alloc (.cells #[] 26)).drew).ownsRow w2.heap.size 26 5 (.slice (some ⟨w2.heap.size + 1, 0, none⟩) 0 0) 0 []) := Lib.hid (own_empty' (by simp) (by simp))
              have BBC : Hid (Below w2.heap.size w2 (((w2.alloc (.cells #[.int .i64 x.a, .int .i64 x.b, .int .i64 x.c, .int .i64 x.d, .int .i64 x.e] 26)).alloc (.cells #[] 26)).drew)) := Lib.hid ((((Below.refl _ _).alloc (Nat.le_refl _) _).alloc (by simp) _).drew)
              have RXC : Hid (Rd (((w2.alloc (.cells #[.int .i64 x.a, .int .i64 x.b, .int .i64 x.c, .int .i64 x.d, .int .i64 x.e] 26)).alloc (.cells #[] 26)).drew) (some ⟨w2.heap.size, 0, none⟩) x.cells) := Lib.hid ((rd_new #[.int .i64 x.a, .int .i64 x.b, .int .i64 x.c, .int .i64 x.d, .int .i64 x.e] 26 rfl).alloc _)
              have RAC : Hid (Rd (((w2.alloc (.cells #[.int .i64 x.a, .int .i64 x.b, .int .i64 x.c, .int .i64 x.d, .int .i64 x.e] 26)).alloc (.cells #[] 26)).drew) (some ⟨g, 0, none⟩) (cells5 (xs.take k))) := Lib.hid (rd_takeT (HR.out.below BBC.out) k)
              go_region_held3 (fun w' => w'.cell? ⟨w.heap.size, 0, none⟩ = some (.int .i64 x.a) ∧ w'.cell? ⟨w.heap.size, 1, none⟩ = some (.int .i64 x.b) ∧ w'.cell? ⟨w.heap.size, 2, none⟩ = some (.int .i64 x.c) ∧ w'.cell? ⟨w.heap.size, 3, none⟩ = some (.int .i64 x.d) ∧ w'.cell? ⟨w.heap.size, 4, none⟩ = some (.int .i64 x.e)) (first | go_keep | exact ⟨(B6.cell (p := ⟨w.heap.size, 0, none⟩) hslr).trans f0, (B6.cell (p := ⟨w.heap.size, 1, none⟩) hslr).trans f1, (B6.cell (p := ⟨w.heap.size, 2, none⟩) hslr).trans f2, (B6.cell (p := ⟨w.heap.size, 3, none⟩) hslr).trans f3, (B6.cell (p := ⟨w.heap.size, 4, none⟩) hslr).trans f4⟩ | exact ⟨(B5.cell (p := ⟨w.heap.size, 0, none⟩) hslr).trans f0, (B5.cell (p := ⟨w.heap.size, 1, none⟩) hslr).trans f1, (B5.cell (p := ⟨w.heap.size, 2, none⟩) hslr).trans f2, (B5.cell (p := ⟨w.heap.size, 3, none⟩) hslr).trans f3, (B5.cell (p := ⟨w.heap.size, 4, none⟩) hslr).trans f4⟩ | exact ⟨(B4.cell (p := ⟨w.heap.size, 0, none⟩) hslr).trans f0, (B4.cell (p := ⟨w.heap.size, 1, none⟩) hslr).trans f1, (B4.cell (p := ⟨w.heap.size, 2, none⟩) hslr).trans f2, (B4.cell (p := ⟨w.heap.size, 3, none⟩) hslr).trans f3, (B4.cell (p := ⟨w.heap.size, 4, none⟩) hslr).trans f4⟩) (first
                | (refine step_app rfl (.tmp 28) (.tmp 31) 24 rfl w2.heap.size 26 _ 5 40 Try.underlying24 info26 rfl (by omega) (.slice (some ⟨w2.heap.size, 0, none⟩) 0 0) 0 [] (by simp [Act.eval, Act.put]) (by with_reducible exact OA.out) (some ⟨g, 0, none⟩) k c (cells5 (xs.take k)) (by simp [Act.eval, Act.put]) HK5.out (RAA.out) (oneCell_cells5 _) (by unfold maxLen; omega) (by omega) (by first | exact Nat.le_refl _ | exact B4.size | exact (B4.alloc B4.size _).size | exact B5.size | (simp <;> omega)) ?_; intro v4 w4 o4 g4w _; have B4 := BBA.out.grown g4w BBA.out.size (fun j hj => (OA.out.lt j hj).1))
                | (refine step_app rfl (.tmp 28) (.tmp 31) 24 rfl w2.heap.size 26 _ 5 40 Try.underlying24 info26 rfl (by omega) (.slice (some ⟨w2.heap.size, 0, none⟩) 0 0) 0 [] (by simp [Act.eval, Act.put]) (by with_reducible exact OB.out) (some ⟨g, 0, none⟩) k c (cells5 (xs.take k)) (by simp [Act.eval, Act.put]) HK5.out (RAB.out) (oneCell_cells5 _) (by unfold maxLen; omega) (by omega) (by first | exact Nat.le_refl _ | exact B4.size | exact (B4.alloc B4.size _).size | exact B5.size | (simp <;> omega)) ?_; intro v4 w4 o4 g4w _; have B4 := BBB.out.grown g4w BBB.out.size (fun j hj => (OB.out.lt j hj).1); have RX4 := rd_grown g4w RXB.out (by simp <;> omega) (by simp [Value.ownBlock]))
                | (refine step_app rfl (.tmp 28) (.tmp 31) 24 rfl w2.heap.size 26 _ 5 40 Try.underlying24 info26 rfl (by omega) (.slice (some ⟨w2.heap.size + 1, 0, none⟩) 0 0) 0 [] (by simp [Act.eval, Act.put]) (by with_reducible exact OC.out) (some ⟨g, 0, none⟩) k c (cells5 (xs.take k)) (by simp [Act.eval, Act.put]) HK5.out (RAC.out) (oneCell_cells5 _) (by unfold maxLen; omega) (by omega) (by first | exact Nat.le_refl _ | exact B4.size | exact (B4.alloc B4.size _).size | exact B5.size | (simp <;> omega)) ?_; intro v4 w4 o4 g4w _; have B4 := BBC.out.grown g4w BBC.out.size (fun j hj => (OC.out.lt j hj).1); have RX4 := rd_grown g4w RXC.out (by simp <;> omega) (by simp [Value.ownBlock]))
                | (refine step_app rfl (.tmp 32) (.tmp 34) 24 rfl w2.heap.size 26 _ 5 40 Try.underlying24 info26 rfl (by omega) v4 _ _ (by simp [Act.eval, Act.put]) (by with_reducible exact o4.alloc _) (some ⟨w4.heap.size, 0, none⟩) 1 1 x.cells (by simp [Act.eval, Act.put]) HX5.out (rd_new #[.int .i64 x.a, .int .i64 x.b, .int .i64 x.c, .int .i64 x.d, .int .i64 x.e] 26 rfl) (oneCell_x x) (by unfold maxLen; omega) (by omega) (by first | exact Nat.le_refl _ | exact B4.size | exact (B4.alloc B4.size _).size | exact B5.size | (simp <;> omega)) ?_; intro v5 w5 o5 g5w _; have B5 : Below w2.heap.size w2 w5 := (B4.alloc B4.size _).grown g5w (B4.alloc B4.size _).size (fun j hj => (o4.lt j hj).1))
                | (refine step_app rfl (.tmp 32) (.tmp 34) 24 rfl w2.heap.size 26 _ 5 40 Try.underlying24 info26 rfl (by omega) v4 _ _ (by simp [Act.eval, Act.put]) (by with_reducible exact o4) (some ⟨(w2.heap.size + 1), 0, none⟩) 1 1 x.cells (by simp [Act.eval, Act.put]) HX5.out (RX4) (oneCell_x x) (by unfold maxLen; omega) (by omega) (by first | exact Nat.le_refl _ | exact B4.size | exact (B4.alloc B4.size _).size | exact B5.size | (simp <;> omega)) ?_; intro v5 w5 o5 g5w _; have B5 : Below w2.heap.size w2 w5 := B4.grown g5w B4.size (fun j hj => (o4.lt j hj).1))
                | (refine step_app rfl (.tmp 32) (.tmp 34) 24 rfl w2.heap.size 26 _ 5 40 Try.underlying24 info26 rfl (by omega) v4 _ _ (by simp [Act.eval, Act.put]) (by with_reducible exact o4) (some ⟨w2.heap.size, 0, none⟩) 1 1 x.cells (by simp [Act.eval, Act.put]) HX5.out (RX4) (oneCell_x x) (by unfold maxLen; omega) (by omega) (by first | exact Nat.le_refl _ | exact B4.size | exact (B4.alloc B4.size _).size | exact B5.size | (simp <;> omega)) ?_; intro v5 w5 o5 g5w _; have B5 : Below w2.heap.size w2 w5 := B4.grown g5w B4.size (fun j hj => (o4.lt j hj).1))
                | (refine step_app rfl (.tmp 35) (.tmp 38) 24 rfl w2.heap.size 26 _ 5 40 Try.underlying24 info26 rfl (by omega) v5 _ _ (by simp [Act.eval, Act.put]) (by with_reducible exact o5) (some ⟨g, 0 + k * 5, none⟩) (n - k) (c - k) (cells5 (xs.drop k)) (by simp [Act.eval, Act.put]) HD5.out (rd_dropT (HR.out.below B5) k) (oneCell_cells5 _) (by unfold maxLen; omega) (by omega) (by first | exact Nat.le_refl _ | exact B4.size | exact (B4.alloc B4.size _).size | exact B5.size | (simp <;> omega)) ?_; intro v6 w6 o6 g6w _; have B6 : Below w2.heap.size w2 w6 := B5.grown g6w B5.size (fun j hj => (o5.lt j hj).1)))
              all_goals go_goals
              all_goals (
                have EC : [] ++ cells5 (xs.take k) ++ x.cells ++ cells5 (xs.drop k) = cells5 (putL xs x k) := by rw [cells5_putL, List.nil_append, List.append_assoc]
                have EN : 0 + k + 1 + (n - k) = n + 1 := by omega
                rw [EC, EN] at o6
                clear EC EN
                have hb6 : Below w.heap.size w w6 := HBR.out.trans (B6.mono HBR.out.size)
                have o6' := own_mono o6 HBR.out.size
                obtain ⟨A', c', rfl⟩ := own_form o6'
                have R6 := Lib.hid (Rd.of_own o6')
                have O6 := Lib.hid o6'
                clear o6 o6' o5 o4 g4w g5w g6w B4 B5 B6 f0 f1 f2 f3 f4 OA OB OC BBA BBB BBC RAA RAB RAC RXB RXC
                go_wp2_with fail
                refine (C5.out k _ _ _ HKN.out R6.out).mono ?_
                rintro e w7 ⟨rfl, b7⟩
                have HB7 := hb6.trans (b7.mono hb6.size)
                have O7 := own_below O6.out b7
                obtain ⟨z, hz⟩ : ∃ z, z = insL (putL xs x k) := ⟨_, rfl⟩
                rw [← hz]
                have HZ := Lib.hid hz
                have HPL : Hid ((putL xs x k).length = n + 1) := Lib.hid (by rw [putL_len x (by have := HN.out; have := HKN.out; omega), HN.out])
                clear hz
                cases z with
                | true =>
                  go_wp2
                  go_ret2
                  rw [HAV.out.1, HAV.out.2, ← HZ.out]
                  refine ⟨.slice A' (n + 1) c', rfl, ?_, HB7⟩
                  simp only [sgW, if_true, HPL.out]
                  exact O7
                | false =>
                  go_wp2
                  go_ret2
                  rw [HAV.out.1, HAV.out.2, ← HZ.out]
                  exact ⟨_, rfl, own_empty _ _ _ _ HB7.size, HB7.alloc HB7.size _⟩)
      · have HH2 : Hid (k = 0 ∨ ∃ y, xs[k - 1]? = some y ∧ insBefore y x = true) := Lib.hid (.inl (by omega))
        have e0 : decide ((0 : Int) < (k : Int)) = false := decide_eq_false (by omega)
        go_wp2_with fail
        refine wp_region_lat wr.heap.size (by kernel_rfl) (by kernel_rfl) ?_
        have LC := fun (u : Lat wr.heap.size wr) => u.cell
        repeat (go_big_quiet_step (fail))
        refine wpQuiet_nil ?_
        intro w2 b2
        have f0' := (b2.cell (p := ⟨w.heap.size, 0, none⟩) hslr).trans f0
        have f1' := (b2.cell (p := ⟨w.heap.size, 1, none⟩) hslr).trans f1
        have f2' := (b2.cell (p := ⟨w.heap.size, 2, none⟩) hslr).trans f2
        have f3' := (b2.cell (p := ⟨w.heap.size, 3, none⟩) hslr).trans f3
        have f4' := (b2.cell (p := ⟨w.heap.size, 4, none⟩) hslr).trans f4
        have HR2 := Lib.hid (HR.out.below b2)
        have HBR2 := Lib.hid (HBR.out.trans (b2.mono HBR.out.size))
        have hs2 := b2.size
        have hslr2 : w.heap.size < w2.heap.size := by omega
        clear LC f0 f1 f2 f3 f4 HR HBR hslr hsr hbr b2 hs2 e0
        have f0 := f0'
        have f1 := f1'
        have f2 := f2'
        have f3 := f3'
        have f4 := f4'
        have HR := HR2
        have HBR := HBR2
        have hslr := hslr2
        clear f0' f1' f2' f3' f4' HR2 HBR2 hslr2
        have HAV := Lib.hid (ad_val HV.out (ad_pos HV.out (by have := HN.out; omega) HAL.out HH2.out))
        rcases hform with ⟨hA0, hn0, hc0⟩ | ⟨g, hAg⟩
        · subst hA0
          have HXE : Hid (xs = []) := Lib.hid (List.eq_nil_of_length_eq_zero (by have := HN.out; omega))
          have q5 : (n : Int) ≤ (k : Int) := by omega
          clear hn0 hc0
          go_wp2_with fail
          have HK5 := Lib.hid (show (cells5 (xs.take k)).length = k * 5 by have h2 := length_cells5 (xs.take k); rw [List.length_take] at h2; have := HN.out; omega)
          have HD5 := Lib.hid (show (cells5 (xs.drop k)).length = (n - k) * 5 by have h2 := length_cells5 (xs.drop k); rw [List.length_drop] at h2; have := HN.out; omega)
          have HX5 := Lib.hid (show x.cells.length = 1 * 5 from rfl)
          have OA : Hid (((w2.alloc (.cells #[] 26)).drew).ownsRow w2.heap.size 26 5 (.slice (some ⟨w2.heap.size, 0, none⟩) 0 0) 0 []) := Lib.hid (own_empty w2 _ _ _ (Nat.le_refl _))
          have BBA : Hid (Below w2.heap.size w2 ((w2.alloc (.cells #[] 26)).drew)) := Lib.hid ((Below.refl _ _).alloc (Nat.le_refl _) _).drew
          have RAA : Hid (Rd ((w2.alloc (.cells #[] 26)).drew) none (cells5 (xs.take k))) := Lib.hid (rd_takeT (HR.out.below BBA.out) k)
          have OB : Hid ((((w2.alloc (.cells #[] 26)).alloc (.cells #[.int .i64 x.a, .int .i64 x.b, .int .i64 x.c, .int .i64 x.d, .int .i64 x.e] 26)).drew).ownsRow w2.heap.size 26 5 (.slice (some ⟨w2.heap.size, 0, none⟩) 0 0) 0 []) := Lib.hid ((own_empty w2 _ _ _ (Nat.le_refl _)).alloc _)
          have BBB : Hid (Below w2.heap.size w2 (((w2.alloc (.cells #[] 26)).alloc (.cells #[.int .i64 x.a, .int .i64 x.b, .int .i64 x.c, .int .i64 x.d, .int .i64 x.e] 26)).drew)) := Lib.hid ((((Below.refl _ _).alloc (Nat.le_refl _) _).alloc (by simp) _).drew)
          have RXB : Hid (Rd (((w2.alloc (.cells #[] 26)).alloc (.cells #[.int .i64 x.a, .int .i64 x.b, .int .i64 x.c, .int .i64 x.d, .int .i64 x.e] 26)).drew) (some ⟨w2.heap.size + 1, 0, none⟩) x.cells) := Lib.hid (rd_new #[.int .i64 x.a, .int .i64 x.b, .int .i64 x.c, .int .i64 x.d, .int .i64 x.e] 26 (by simp))
          have RAB : Hid (Rd (((w2.alloc (.cells #[] 26)).alloc (.cells #[.int .i64 x.a, .int .i64 x.b, .int .i64 x.c, .int .i64 x.d, .int .i64 x.e] 26)).drew) none (cells5 (xs.take k))) := Lib.hid (rd_takeT (HR.out.below BBB.out) k)
          have OC : Hid ((((w2.alloc (.cells #[.int .i64 x.a, .int .i64 x.b, .int .i64 x.c, .int .i64 x.d, .int .i64 x.e] 26)).alloc (.cells #[] 26)).drew).ownsRow w2.heap.size 26 5 (.slice (some ⟨w2.heap.size + 1, 0, none⟩) 0 0) 0 []) := Lib.hid (own_empty' (by simp) (by simp))
          have BBC : Hid (Below w2.heap.size w2 (((w2.alloc (.cells #[.int .i64 x.a, .int .i64 x.b, .int .i64 x.c, .int .i64 x.d, .int .i64 x.e] 26)).alloc (.cells #[] 26)).drew)) := Lib.hid ((((Below.refl _ _).alloc (Nat.le_refl _) _).alloc (by simp) _).drew)
          have RXC : Hid (Rd (((w2.alloc (.cells #[.int .i64 x.a, .int .i64 x.b, .int .i64 x.c, .int .i64 x.d, .int .i64 x.e] 26)).alloc (.cells #[] 26)).drew) (some ⟨w2.heap.size, 0, none⟩) x.cells) := Lib.hid ((rd_new #[.int .i64 x.a, .int .i64 x.b, .int .i64 x.c, .int .i64 x.d, .int .i64 x.e] 26 rfl).alloc _)
          have RAC : Hid (Rd (((w2.alloc (.cells #[.int .i64 x.a, .int .i64 x.b, .int .i64 x.c, .int .i64 x.d, .int .i64 x.e] 26)).alloc (.cells #[] 26)).drew) none (cells5 (xs.take k))) := Lib.hid (rd_takeT (HR.out.below BBC.out) k)
          go_region_held3 (fun w' => w'.cell? ⟨w.heap.size, 0, none⟩ = some (.int .i64 x.a) ∧ w'.cell? ⟨w.heap.size, 1, none⟩ = some (.int .i64 x.b) ∧ w'.cell? ⟨w.heap.size, 2, none⟩ = some (.int .i64 x.c) ∧ w'.cell? ⟨w.heap.size, 3, none⟩ = some (.int .i64 x.d) ∧ w'.cell? ⟨w.heap.size, 4, none⟩ = some (.int .i64 x.e)) (first | go_keep | exact ⟨(B6.cell (p := ⟨w.heap.size, 0, none⟩) hslr).trans f0, (B6.cell (p := ⟨w.heap.size, 1, none⟩) hslr).trans f1, (B6.cell (p := ⟨w.heap.size, 2, none⟩) hslr).trans f2, (B6.cell (p := ⟨w.heap.size, 3, none⟩) hslr).trans f3, (B6.cell (p := ⟨w.heap.size, 4, none⟩) hslr).trans f4⟩ | exact ⟨(B5.cell (p := ⟨w.heap.size, 0, none⟩) hslr).trans f0, (B5.cell (p := ⟨w.heap.size, 1, none⟩) hslr).trans f1, (B5.cell (p := ⟨w.heap.size, 2, none⟩) hslr).trans f2, (B5.cell (p := ⟨w.heap.size, 3, none⟩) hslr).trans f3, (B5.cell (p := ⟨w.heap.size, 4, none⟩) hslr).trans f4⟩ | exact ⟨(B4.cell (p := ⟨w.heap.size, 0, none⟩) hslr).trans f0, (B4.cell (p := ⟨w.heap.size, 1, none⟩) hslr).trans f1, (B4.cell (p := ⟨w.heap.size, 2, none⟩) hslr).trans f2, (B4.cell (p := ⟨w.heap.size, 3, none⟩) hslr).trans f3, (B4.cell (p := ⟨w.heap.size, 4, none⟩) hslr).trans f4⟩) (first
            | (refine step_app rfl (.tmp 28) (.tmp 31) 24 rfl w2.heap.size 26 _ 5 40 Try.underlying24 info26 rfl (by omega) (.slice (some ⟨w2.heap.size, 0, none⟩) 0 0) 0 [] (by simp [Act.eval, Act.put]) (by with_reducible exact OA.out) none k c (cells5 (xs.take k)) (by simp [Act.eval, Act.put]) HK5.out (RAA.out) (oneCell_cells5 _) (by unfold maxLen; omega) (by omega) (by first | exact Nat.le_refl _ | exact B4.size | exact (B4.alloc B4.size _).size | exact B5.size | (simp <;> omega)) ?_; intro v4 w4 o4 g4w _; have B4 := BBA.out.grown g4w BBA.out.size (fun j hj => (OA.out.lt j hj).1))
            | (refine step_app rfl (.tmp 28) (.tmp 31) 24 rfl w2.heap.size 26 _ 5 40 Try.underlying24 info26 rfl (by omega) (.slice (some ⟨w2.heap.size, 0, none⟩) 0 0) 0 [] (by simp [Act.eval, Act.put]) (by with_reducible exact OB.out) none k c (cells5 (xs.take k)) (by simp [Act.eval, Act.put]) HK5.out (RAB.out) (oneCell_cells5 _) (by unfold maxLen; omega) (by omega) (by first | exact Nat.le_refl _ | exact B4.size | exact (B4.alloc B4.size _).size | exact B5.size | (simp <;> omega)) ?_; intro v4 w4 o4 g4w _; have B4 := BBB.out.grown g4w BBB.out.size (fun j hj => (OB.out.lt j hj).1); have RX4 := rd_grown g4w RXB.out (by simp <;> omega) (by simp [Value.ownBlock]))
            | (refine step_app rfl (.tmp 28) (.tmp 31) 24 rfl w2.heap.size 26 _ 5 40 Try.underlying24 info26 rfl (by omega) (.slice (some ⟨w2.heap.size + 1, 0, none⟩) 0 0) 0 [] (by simp [Act.eval, Act.put]) (by with_reducible exact OC.out) none k c (cells5 (xs.take k)) (by simp [Act.eval, Act.put]) HK5.out (RAC.out) (oneCell_cells5 _) (by unfold maxLen; omega) (by omega) (by first | exact Nat.le_refl _ | exact B4.size | exact (B4.alloc B4.size _).size | exact B5.size | (simp <;> omega)) ?_; intro v4 w4 o4 g4w _; have B4 := BBC.out.grown g4w BBC.out.size (fun j hj => (OC.out.lt j hj).1); have RX4 := rd_grown g4w RXC.out (by simp <;> omega) (by simp [Value.ownBlock]))
            | (refine step_app rfl (.tmp 32) (.tmp 34) 24 rfl w2.heap.size 26 _ 5 40 Try.underlying24 info26 rfl (by omega) v4 _ _ (by simp [Act.eval, Act.put]) (by with_reducible exact o4.alloc _) (some ⟨w4.heap.size, 0, none⟩) 1 1 x.cells (by simp [Act.eval, Act.put]) HX5.out (rd_new #[.int .i64 x.a, .int .i64 x.b, .int .i64 x.c, .int .i64 x.d, .int .i64 x.e] 26 rfl) (oneCell_x x) (by unfold maxLen; omega) (by omega) (by first | exact Nat.le_refl _ | exact B4.size | exact (B4.alloc B4.size _).size | exact B5.size | (simp <;> omega)) ?_; intro v5 w5 o5 g5w _; have B5 : Below w2.heap.size w2 w5 := (B4.alloc B4.size _).grown g5w (B4.alloc B4.size _).size (fun j hj => (o4.lt j hj).1))
            | (refine step_app rfl (.tmp 32) (.tmp 34) 24 rfl w2.heap.size 26 _ 5 40 Try.underlying24 info26 rfl (by omega) v4 _ _ (by simp [Act.eval, Act.put]) (by with_reducible exact o4) (some ⟨(w2.heap.size + 1), 0, none⟩) 1 1 x.cells (by simp [Act.eval, Act.put]) HX5.out (RX4) (oneCell_x x) (by unfold maxLen; omega) (by omega) (by first | exact Nat.le_refl _ | exact B4.size | exact (B4.alloc B4.size _).size | exact B5.size | (simp <;> omega)) ?_; intro v5 w5 o5 g5w _; have B5 : Below w2.heap.size w2 w5 := B4.grown g5w B4.size (fun j hj => (o4.lt j hj).1))
            | (refine step_app rfl (.tmp 32) (.tmp 34) 24 rfl w2.heap.size 26 _ 5 40 Try.underlying24 info26 rfl (by omega) v4 _ _ (by simp [Act.eval, Act.put]) (by with_reducible exact o4) (some ⟨w2.heap.size, 0, none⟩) 1 1 x.cells (by simp [Act.eval, Act.put]) HX5.out (RX4) (oneCell_x x) (by unfold maxLen; omega) (by omega) (by first | exact Nat.le_refl _ | exact B4.size | exact (B4.alloc B4.size _).size | exact B5.size | (simp <;> omega)) ?_; intro v5 w5 o5 g5w _; have B5 : Below w2.heap.size w2 w5 := B4.grown g5w B4.size (fun j hj => (o4.lt j hj).1))
            | (refine step_app rfl (.tmp 35) (.tmp 38) 24 rfl w2.heap.size 26 _ 5 40 Try.underlying24 info26 rfl (by omega) v5 _ _ (by simp [Act.eval, Act.put]) (by with_reducible exact o5) none (n - k) (c - k) (cells5 (xs.drop k)) (by simp [Act.eval, Act.put]) HD5.out (.inl (by rw [HXE.out]; simp [cells5])) (oneCell_cells5 _) (by unfold maxLen; omega) (by omega) (by first | exact Nat.le_refl _ | exact B4.size | exact (B4.alloc B4.size _).size | exact B5.size | (simp <;> omega)) ?_; intro v6 w6 o6 g6w _; have B6 : Below w2.heap.size w2 w6 := B5.grown g6w B5.size (fun j hj => (o5.lt j hj).1)))
          all_goals go_goals
          all_goals (
            have EC : [] ++ cells5 (xs.take k) ++ x.cells ++ cells5 (xs.drop k) = cells5 (putL xs x k) := by rw [cells5_putL, List.nil_append, List.append_assoc]
            have EN : 0 + k + 1 + (n - k) = n + 1 := by omega
            rw [EC, EN] at o6
            clear EC EN
            have hb6 : Below w.heap.size w w6 := HBR.out.trans (B6.mono HBR.out.size)
            have o6' := own_mono o6 HBR.out.size
            obtain ⟨A', c', rfl⟩ := own_form o6'
            have R6 := Lib.hid (Rd.of_own o6')
            have O6 := Lib.hid o6'
            clear o6 o6' o5 o4 g4w g5w g6w B4 B5 B6 f0 f1 f2 f3 f4 OA OB OC BBA BBB BBC RAA RAB RAC RXB RXC
            go_wp2_with fail
            refine (C5.out k _ _ _ HKN.out R6.out).mono ?_
            rintro e w7 ⟨rfl, b7⟩
            have HB7 := hb6.trans (b7.mono hb6.size)
            have O7 := own_below O6.out b7
            obtain ⟨z, hz⟩ : ∃ z, z = insL (putL xs x k) := ⟨_, rfl⟩
            rw [← hz]
            have HZ := Lib.hid hz
            have HPL : Hid ((putL xs x k).length = n + 1) := Lib.hid (by rw [putL_len x (by have := HN.out; have := HKN.out; omega), HN.out])
            clear hz
            cases z with
            | true =>
              go_wp2
              go_ret2
              rw [HAV.out.1, HAV.out.2, ← HZ.out]
              refine ⟨.slice A' (n + 1) c', rfl, ?_, HB7⟩
              simp only [sgW, if_true, HPL.out]
              exact O7
            | false =>
              go_wp2
              go_ret2
              rw [HAV.out.1, HAV.out.2, ← HZ.out]
              exact ⟨_, rfl, own_empty _ _ _ _ HB7.size, HB7.alloc HB7.size _⟩)
        · subst hAg
          by_cases hkc : k = c
          · obtain rfl : n = k := by omega
            subst hkc
            go_wp2_with fail
            have HK5 := Lib.hid (show (cells5 (xs.take n)).length = n * 5 by have h2 := length_cells5 (xs.take n); rw [List.length_take] at h2; have := HN.out; omega)
            have HD5 := Lib.hid (show (cells5 (xs.drop n)).length = 0 * 5 by have h2 := length_cells5 (xs.drop n); rw [List.length_drop] at h2; have := HN.out; omega)
            have HX5 := Lib.hid (show x.cells.length = 1 * 5 from rfl)
            have OA : Hid (((w2.alloc (.cells #[] 26)).drew).ownsRow w2.heap.size 26 5 (.slice (some ⟨w2.heap.size, 0, none⟩) 0 0) 0 []) := Lib.hid (own_empty w2 _ _ _ (Nat.le_refl _))
            have BBA : Hid (Below w2.heap.size w2 ((w2.alloc (.cells #[] 26)).drew)) := Lib.hid ((Below.refl _ _).alloc (Nat.le_refl _) _).drew
            have RAA : Hid (Rd ((w2.alloc (.cells #[] 26)).drew) (some ⟨g, 0, none⟩) (cells5 (xs.take n))) := Lib.hid (rd_takeT (HR.out.below BBA.out) n)
            have OB : Hid ((((w2.alloc (.cells #[] 26)).alloc (.cells #[.int .i64 x.a, .int .i64 x.b, .int .i64 x.c, .int .i64 x.d, .int .i64 x.e] 26)).drew).ownsRow w2.heap.size 26 5 (.slice (some ⟨w2.heap.size, 0, none⟩) 0 0) 0 []) := Lib.hid ((own_empty w2 _ _ _ (Nat.le_refl _)).alloc _)
            have BBB : Hid (Below w2.heap.size w2 (((w2.alloc (.cells #[] 26)).alloc (.cells #[.int .i64 x.a, .int .i64 x.b, .int .i64 x.c, .int .i64 x.d, .int .i64 x.e] 26)).drew)) := Lib.hid ((((Below.refl _ _).alloc (Nat.le_refl _) _).alloc (by simp) _).drew)
            have RXB : Hid (Rd (((w2.alloc (.cells #[] 26)).alloc (.cells #[.int .i64 x.a, .int .i64 x.b, .int .i64 x.c, .int .i64 x.d, .int .i64 x.e] 26)).drew) (some ⟨w2.heap.size + 1, 0, none⟩) x.cells) := Lib.hid (rd_new #[.int .i64 x.a, .int .i64 x.b, .int .i64 x.c, .int .i64 x.d, .int .i64 x.e] 26 (by simp))
            have RAB : Hid (Rd (((w2.alloc (.cells #[] 26)).alloc (.cells #[.int .i64 x.a, .int .i64 x.b, .int .i64 x.c, .int .i64 x.d, .int .i64 x.e] 26)).drew) (some ⟨g, 0, none⟩) (cells5 (xs.take n))) := Lib.hid (rd_takeT (HR.out.below BBB.out) n)
            have OC : Hid ((((w2.alloc (.cells #[.int .i64 x.a, .int .i64 x.b, .int .i64 x.c, .int .i64 x.d, .int .i64 x.e] 26)).alloc (.cells #[] 26)).drew).ownsRow w2.heap.size 26 5 (.slice (some ⟨w2.heap.size + 1, 0, none⟩) 0 0) 0 []) := Lib.hid (own_empty' (by simp) (by simp))
            have BBC : Hid (Below w2.heap.size w2 (((w2.alloc (.cells #[.int .i64 x.a, .int .i64 x.b, .int .i64 x.c, .int .i64 x.d, .int .i64 x.e] 26)).alloc (.cells #[] 26)).drew)) := Lib.hid ((((Below.refl _ _).alloc (Nat.le_refl _) _).alloc (by simp) _).drew)
            have RXC : Hid (Rd (((w2.alloc (.cells #[.int .i64 x.a, .int .i64 x.b, .int .i64 x.c, .int .i64 x.d, .int .i64 x.e] 26)).alloc (.cells #[] 26)).drew) (some ⟨w2.heap.size, 0, none⟩) x.cells) := Lib.hid ((rd_new #[.int .i64 x.a, .int .i64 x.b, .int .i64 x.c, .int .i64 x.d, .int .i64 x.e] 26 rfl).alloc _)
            have RAC : Hid (Rd (((w2.alloc (.cells #[.int .i64 x.a, .int .i64 x.b, .int .i64 x.c, .int .i64 x.d, .int .i64 x.e] 26)).alloc (.cells #[] 26)).drew) (some ⟨g, 0, none⟩) (cells5 (xs.take n))) := Lib.hid (rd_takeT (HR.out.below BBC.out) n)
            go_region_held3 (fun w' => w'.cell? ⟨w.heap.size, 0, none⟩ = some (.int .i64 x.a) ∧ w'.cell? ⟨w.heap.size, 1, none⟩ = some (.int .i64 x.b) ∧ w'.cell? ⟨w.heap.size, 2, none⟩ = some (.int .i64 x.c) ∧ w'.cell? ⟨w.heap.size, 3, none⟩ = some (.int .i64 x.d) ∧ w'.cell? ⟨w.heap.size, 4, none⟩ = some (.int .i64 x.e)) (first | go_keep | exact ⟨(B6.cell (p := ⟨w.heap.size, 0, none⟩) hslr).trans f0, (B6.cell (p := ⟨w.heap.size, 1, none⟩) hslr).trans f1, (B6.cell (p := ⟨w.heap.size, 2, none⟩) hslr).trans f2, (B6.cell (p := ⟨w.heap.size, 3, none⟩) hslr).trans f3, (B6.cell (p := ⟨w.heap.size, 4, none⟩) hslr).trans f4⟩ | exact ⟨(B5.cell (p := ⟨w.heap.size, 0, none⟩) hslr).trans f0, (B5.cell (p := ⟨w.heap.size, 1, none⟩) hslr).trans f1, (B5.cell (p := ⟨w.heap.size, 2, none⟩) hslr).trans f2, (B5.cell (p := ⟨w.heap.size, 3, none⟩) hslr).trans f3, (B5.cell (p := ⟨w.heap.size, 4, none⟩) hslr).trans f4⟩ | exact ⟨(B4.cell (p := ⟨w.heap.size, 0, none⟩) hslr).trans f0, (B4.cell (p := ⟨w.heap.size, 1, none⟩) hslr).trans f1, (B4.cell (p := ⟨w.heap.size, 2, none⟩) hslr).trans f2, (B4.cell (p := ⟨w.heap.size, 3, none⟩) hslr).trans f3, (B4.cell (p := ⟨w.heap.size, 4, none⟩) hslr).trans f4⟩) (first
              | (refine step_app rfl (.tmp 28) (.tmp 31) 24 rfl w2.heap.size 26 _ 5 40 Try.underlying24 info26 rfl (by omega) (.slice (some ⟨w2.heap.size, 0, none⟩) 0 0) 0 [] (by simp [Act.eval, Act.put]) (by with_reducible exact OA.out) (some ⟨g, 0, none⟩) n n (cells5 (xs.take n)) (by simp [Act.eval, Act.put]) HK5.out (RAA.out) (oneCell_cells5 _) (by unfold maxLen; omega) (by omega) (by first | exact Nat.le_refl _ | exact B4.size | exact (B4.alloc B4.size _).size | exact B5.size | (simp <;> omega)) ?_; intro v4 w4 o4 g4w _; have B4 := BBA.out.grown g4w BBA.out.size (fun j hj => (OA.out.lt j hj).1))
              | (refine step_app rfl (.tmp 28) (.tmp 31) 24 rfl w2.heap.size 26 _ 5 40 Try.underlying24 info26 rfl (by omega) (.slice (some ⟨w2.heap.size, 0, none⟩) 0 0) 0 [] (by simp [Act.eval, Act.put]) (by with_reducible exact OB.out) (some ⟨g, 0, none⟩) n n (cells5 (xs.take n)) (by simp [Act.eval, Act.put]) HK5.out (RAB.out) (oneCell_cells5 _) (by unfold maxLen; omega) (by omega) (by first | exact Nat.le_refl _ | exact B4.size | exact (B4.alloc B4.size _).size | exact B5.size | (simp <;> omega)) ?_; intro v4 w4 o4 g4w _; have B4 := BBB.out.grown g4w BBB.out.size (fun j hj => (OB.out.lt j hj).1); have RX4 := rd_grown g4w RXB.out (by simp <;> omega) (by simp [Value.ownBlock]))
              | (refine step_app rfl (.tmp 28) (.tmp 31) 24 rfl w2.heap.size 26 _ 5 40 Try.underlying24 info26 rfl (by omega) (.slice (some ⟨w2.heap.size + 1, 0, none⟩) 0 0) 0 [] (by simp [Act.eval, Act.put]) (by with_reducible exact OC.out) (some ⟨g, 0, none⟩) n n (cells5 (xs.take n)) (by simp [Act.eval, Act.put]) HK5.out (RAC.out) (oneCell_cells5 _) (by unfold maxLen; omega) (by omega) (by first | exact Nat.le_refl _ | exact B4.size | exact (B4.alloc B4.size _).size | exact B5.size | (simp <;> omega)) ?_; intro v4 w4 o4 g4w _; have B4 := BBC.out.grown g4w BBC.out.size (fun j hj => (OC.out.lt j hj).1); have RX4 := rd_grown g4w RXC.out (by simp <;> omega) (by simp [Value.ownBlock]))
              | (refine step_app rfl (.tmp 32) (.tmp 34) 24 rfl w2.heap.size 26 _ 5 40 Try.underlying24 info26 rfl (by omega) v4 _ _ (by simp [Act.eval, Act.put]) (by with_reducible exact o4.alloc _) (some ⟨w4.heap.size, 0, none⟩) 1 1 x.cells (by simp [Act.eval, Act.put]) HX5.out (rd_new #[.int .i64 x.a, .int .i64 x.b, .int .i64 x.c, .int .i64 x.d, .int .i64 x.e] 26 rfl) (oneCell_x x) (by unfold maxLen; omega) (by omega) (by first | exact Nat.le_refl _ | exact B4.size | exact (B4.alloc B4.size _).size | exact B5.size | (simp <;> omega)) ?_; intro v5 w5 o5 g5w _; have B5 : Below w2.heap.size w2 w5 := (B4.alloc B4.size _).grown g5w (B4.alloc B4.size _).size (fun j hj => (o4.lt j hj).1))
              | (refine step_app rfl (.tmp 32) (.tmp 34) 24 rfl w2.heap.size 26 _ 5 40 Try.underlying24 info26 rfl (by omega) v4 _ _ (by simp [Act.eval, Act.put]) (by with_reducible exact o4) (some ⟨(w2.heap.size + 1), 0, none⟩) 1 1 x.cells (by simp [Act.eval, Act.put]) HX5.out (RX4) (oneCell_x x) (by unfold maxLen; omega) (by omega) (by first | exact Nat.le_refl _ | exact B4.size | exact (B4.alloc B4.size _).size | exact B5.size | (simp <;> omega)) ?_; intro v5 w5 o5 g5w _; have B5 : Below w2.heap.size w2 w5 := B4.grown g5w B4.size (fun j hj => (o4.lt j hj).1))
              | (refine step_app rfl (.tmp 32) (.tmp 34) 24 rfl w2.heap.size 26 _ 5 40 Try.underlying24 info26 rfl (by omega) v4 _ _ (by simp [Act.eval, Act.put]) (by with_reducible exact o4) (some ⟨w2.heap.size, 0, none⟩) 1 1 x.cells (by simp [Act.eval, Act.put]) HX5.out (RX4) (oneCell_x x) (by unfold maxLen; omega) (by omega) (by first | exact Nat.le_refl _ | exact B4.size | exact (B4.alloc B4.size _).size | exact B5.size | (simp <;> omega)) ?_; intro v5 w5 o5 g5w _; have B5 : Below w2.heap.size w2 w5 := B4.grown g5w B4.size (fun j hj => (o4.lt j hj).1))
              | (refine step_app rfl (.tmp 35) (.tmp 38) 24 rfl w2.heap.size 26 _ 5 40 Try.underlying24 info26 rfl (by omega) v5 _ _ (by simp [Act.eval, Act.put]) (by with_reducible exact o5) (some ⟨g, 0, none⟩) 0 (n - n) (cells5 (xs.drop n)) (by simp [Act.eval, Act.put]) HD5.out (.inl (List.eq_nil_of_length_eq_zero HD5.out)) (oneCell_cells5 _) (by unfold maxLen; omega) (by omega) (by first | exact Nat.le_refl _ | exact B4.size | exact (B4.alloc B4.size _).size | exact B5.size | (simp <;> omega)) ?_; intro v6 w6 o6 g6w _; have B6 : Below w2.heap.size w2 w6 := B5.grown g6w B5.size (fun j hj => (o5.lt j hj).1)))
            all_goals go_goals
            all_goals (
              have EC : [] ++ cells5 (xs.take n) ++ x.cells ++ cells5 (xs.drop n) = cells5 (putL xs x n) := by rw [cells5_putL, List.nil_append, List.append_assoc]
              have EN : 0 + n + 1 + 0 = n + 1 := by omega
              rw [EC, EN] at o6
              clear EC EN
              have hb6 : Below w.heap.size w w6 := HBR.out.trans (B6.mono HBR.out.size)
              have o6' := own_mono o6 HBR.out.size
              obtain ⟨A', c', rfl⟩ := own_form o6'
              have R6 := Lib.hid (Rd.of_own o6')
              have O6 := Lib.hid o6'
              clear o6 o6' o5 o4 g4w g5w g6w B4 B5 B6 f0 f1 f2 f3 f4 OA OB OC BBA BBB BBC RAA RAB RAC RXB RXC
              go_wp2_with fail
              refine (C5.out n _ _ _ HKN.out R6.out).mono ?_
              rintro e w7 ⟨rfl, b7⟩
              have HB7 := hb6.trans (b7.mono hb6.size)
              have O7 := own_below O6.out b7
              obtain ⟨z, hz⟩ : ∃ z, z = insL (putL xs x n) := ⟨_, rfl⟩
              rw [← hz]
              have HZ := Lib.hid hz
              have HPL : Hid ((putL xs x n).length = n + 1) := Lib.hid (by rw [putL_len x (by have := HN.out; have := HKN.out; omega), HN.out])
              clear hz
              cases z with
              | true =>
                go_wp2
                go_ret2
                rw [HAV.out.1, HAV.out.2, ← HZ.out]
                refine ⟨.slice A' (n + 1) c', rfl, ?_, HB7⟩
                simp only [sgW, if_true, HPL.out]
                exact O7
              | false =>
                go_wp2
                go_ret2
                rw [HAV.out.1, HAV.out.2, ← HZ.out]
                exact ⟨_, rfl, own_empty _ _ _ _ HB7.size, HB7.alloc HB7.size _⟩)
          · have hck : ¬ c = k := by omega
            by_cases hkn2 : n = k
            · obtain rfl := hkn2
              go_wp2_with fail
              have HK5 := Lib.hid (show (cells5 (xs.take n)).length = n * 5 by have h2 := length_cells5 (xs.take n); rw [List.length_take] at h2; have := HN.out; omega)
              have HD5 := Lib.hid (show (cells5 (xs.drop n)).length = 0 * 5 by have h2 := length_cells5 (xs.drop n); rw [List.length_drop] at h2; have := HN.out; omega)
              have HX5 := Lib.hid (show x.cells.length = 1 * 5 from rfl)
              have OA : Hid (((w2.alloc (.cells #[] 26)).drew).ownsRow w2.heap.size 26 5 (.slice (some ⟨w2.heap.size, 0, none⟩) 0 0) 0 []) := Lib.hid (own_empty w2 _ _ _ (Nat.le_refl _))
              have BBA : Hid (Below w2.heap.size w2 ((w2.alloc (.cells #[] 26)).drew)) := Lib.hid ((Below.refl _ _).alloc (Nat.le_refl _) _).drew
              have RAA : Hid (Rd ((w2.alloc (.cells #[] 26)).drew) (some ⟨g, 0, none⟩) (cells5 (xs.take n))) := Lib.hid (rd_takeT (HR.out.below BBA.out) n)
              have OB : Hid ((((w2.alloc (.cells #[] 26)).alloc (.cells #[.int .i64 x.a, .int .i64 x.b, .int .i64 x.c, .int .i64 x.d, .int .i64 x.e] 26)).drew).ownsRow w2.heap.size 26 5 (.slice (some ⟨w2.heap.size, 0, none⟩) 0 0) 0 []) := Lib.hid ((own_empty w2 _ _ _ (Nat.le_refl _)).alloc _)
              have BBB : Hid (Below w2.heap.size w2 (((w2.alloc (.cells #[] 26)).alloc (.cells #[.int .i64 x.a, .int .i64 x.b, .int .i64 x.c, .int .i64 x.d, .int .i64 x.e] 26)).drew)) := Lib.hid ((((Below.refl _ _).alloc (Nat.le_refl _) _).alloc (by simp) _).drew)
              have RXB : Hid (Rd (((w2.alloc (.cells #[] 26)).alloc (.cells #[.int .i64 x.a, .int .i64 x.b, .int .i64 x.c, .int .i64 x.d, .int .i64 x.e] 26)).drew) (some ⟨w2.heap.size + 1, 0, none⟩) x.cells) := Lib.hid (rd_new #[.int .i64 x.a, .int .i64 x.b, .int .i64 x.c, .int .i64 x.d, .int .i64 x.e] 26 (by simp))
              have RAB : Hid (Rd (((w2.alloc (.cells #[] 26)).alloc (.cells #[.int .i64 x.a, .int .i64 x.b, .int .i64 x.c, .int .i64 x.d, .int .i64 x.e] 26)).drew) (some ⟨g, 0, none⟩) (cells5 (xs.take n))) := Lib.hid (rd_takeT (HR.out.below BBB.out) n)
              have OC : Hid ((((w2.alloc (.cells #[.int .i64 x.a, .int .i64 x.b, .int .i64 x.c, .int .i64 x.d, .int .i64 x.e] 26)).alloc (.cells #[] 26)).drew).ownsRow w2.heap.size 26 5 (.slice (some ⟨w2.heap.size + 1, 0, none⟩) 0 0) 0 []) := Lib.hid (own_empty' (by simp) (by simp))
              have BBC : Hid (Below w2.heap.size w2 (((w2.alloc (.cells #[.int .i64 x.a, .int .i64 x.b, .int .i64 x.c, .int .i64 x.d, .int .i64 x.e] 26)).alloc (.cells #[] 26)).drew)) := Lib.hid ((((Below.refl _ _).alloc (Nat.le_refl _) _).alloc (by simp) _).drew)
              have RXC : Hid (Rd (((w2.alloc (.cells #[.int .i64 x.a, .int .i64 x.b, .int .i64 x.c, .int .i64 x.d, .int .i64 x.e] 26)).alloc (.cells #[] 26)).drew) (some ⟨w2.heap.size, 0, none⟩) x.cells) := Lib.hid ((rd_new #[.int .i64 x.a, .int .i64 x.b, .int .i64 x.c, .int .i64 x.d, .int .i64 x.e] 26 rfl).alloc _)
              have RAC : Hid (Rd (((w2.alloc (.cells #[.int .i64 x.a, .int .i64 x.b, .int .i64 x.c, .int .i64 x.d, .int .i64 x.e] 26)).alloc (.cells #[] 26)).drew) (some ⟨g, 0, none⟩) (cells5 (xs.take n))) := Lib.hid (rd_takeT (HR.out.below BBC.out) n)
              go_region_held3 (fun w' => w'.cell? ⟨w.heap.size, 0, none⟩ = some (.int .i64 x.a) ∧ w'.cell? ⟨w.heap.size, 1, none⟩ = some (.int .i64 x.b) ∧ w'.cell? ⟨w.heap.size, 2, none⟩ = some (.int .i64 x.c) ∧ w'.cell? ⟨w.heap.size, 3, none⟩ = some (.int .i64 x.d) ∧ w'.cell? ⟨w.heap.size, 4, none⟩ = some (.int .i64 x.e)) (first | go_keep | exact ⟨(B6.cell (p := ⟨w.heap.size, 0, none⟩) hslr).trans f0, (B6.cell (p := ⟨w.heap.size, 1, none⟩) hslr).trans f1, (B6.cell (p := ⟨w.heap.size, 2, none⟩) hslr).trans f2, (B6.cell (p := ⟨w.heap.size, 3, none⟩) hslr).trans f3, (B6.cell (p := ⟨w.heap.size, 4, none⟩) hslr).trans f4⟩ | exact ⟨(B5.cell (p := ⟨w.heap.size, 0, none⟩) hslr).trans f0, (B5.cell (p := ⟨w.heap.size, 1, none⟩) hslr).trans f1, (B5.cell (p := ⟨w.heap.size, 2, none⟩) hslr).trans f2, (B5.cell (p := ⟨w.heap.size, 3, none⟩) hslr).trans f3, (B5.cell (p := ⟨w.heap.size, 4, none⟩) hslr).trans f4⟩ | exact ⟨(B4.cell (p := ⟨w.heap.size, 0, none⟩) hslr).trans f0, (B4.cell (p := ⟨w.heap.size, 1, none⟩) hslr).trans f1, (B4.cell (p := ⟨w.heap.size, 2, none⟩) hslr).trans f2, (B4.cell (p := ⟨w.heap.size, 3, none⟩) hslr).trans f3, (B4.cell (p := ⟨w.heap.size, 4, none⟩) hslr).trans f4⟩) (first
                | (refine step_app rfl (.tmp 28) (.tmp 31) 24 rfl w2.heap.size 26 _ 5 40 Try.underlying24 info26 rfl (by omega) (.slice (some ⟨w2.heap.size, 0, none⟩) 0 0) 0 [] (by simp [Act.eval, Act.put]) (by with_reducible exact OA.out) (some ⟨g, 0, none⟩) n c (cells5 (xs.take n)) (by simp [Act.eval, Act.put]) HK5.out (RAA.out) (oneCell_cells5 _) (by unfold maxLen; omega) (by omega) (by first | exact Nat.le_refl _ | exact B4.size | exact (B4.alloc B4.size _).size | exact B5.size | (simp <;> omega)) ?_; intro v4 w4 o4 g4w _; have B4 := BBA.out.grown g4w BBA.out.size (fun j hj => (OA.out.lt j hj).1))
                | (refine step_app rfl (.tmp 28) (.tmp 31) 24 rfl w2.heap.size 26 _ 5 40 Try.underlying24 info26 rfl (by omega) (.slice (some ⟨w2.heap.size, 0, none⟩) 0 0) 0 [] (by simp [Act.eval, Act.put]) (by with_reducible exact OB.out) (some ⟨g, 0, none⟩) n c (cells5 (xs.take n)) (by simp [Act.eval, Act.put]) HK5.out (RAB.out) (oneCell_cells5 _) (by unfold maxLen; omega) (by omega) (by first | exact Nat.le_refl _ | exact B4.size | exact (B4.alloc B4.size _).size | exact B5.size | (simp <;> omega)) ?_; intro v4 w4 o4 g4w _; have B4 := BBB.out.grown g4w BBB.out.size (fun j hj => (OB.out.lt j hj).1); have RX4 := rd_grown g4w RXB.out (by simp <;> omega) (by simp [Value.ownBlock]))
                | (refine step_app rfl (.tmp 28) (.tmp 31) 24 rfl w2.heap.size 26 _ 5 40 Try.underlying24 info26 rfl (by omega) (.slice (some ⟨w2.heap.size + 1, 0, none⟩) 0 0) 0 [] (by simp [Act.eval, Act.put]) (by with_reducible exact OC.out) (some ⟨g, 0, none⟩) n c (cells5 (xs.take n)) (by simp [Act.eval, Act.put]) HK5.out (RAC.out) (oneCell_cells5 _) (by unfold maxLen; omega) (by omega) (by first | exact Nat.le_refl _ | exact B4.size | exact (B4.alloc B4.size _).size | exact B5.size | (simp <;> omega)) ?_; intro v4 w4 o4 g4w _; have B4 := BBC.out.grown g4w BBC.out.size (fun j hj => (OC.out.lt j hj).1); have RX4 := rd_grown g4w RXC.out (by simp <;> omega) (by simp [Value.ownBlock]))
                | (refine step_app rfl (.tmp 32) (.tmp 34) 24 rfl w2.heap.size 26 _ 5 40 Try.underlying24 info26 rfl (by omega) v4 _ _ (by simp [Act.eval, Act.put]) (by with_reducible exact o4.alloc _) (some ⟨w4.heap.size, 0, none⟩) 1 1 x.cells (by simp [Act.eval, Act.put]) HX5.out (rd_new #[.int .i64 x.a, .int .i64 x.b, .int .i64 x.c, .int .i64 x.d, .int .i64 x.e] 26 rfl) (oneCell_x x) (by unfold maxLen; omega) (by omega) (by first | exact Nat.le_refl _ | exact B4.size | exact (B4.alloc B4.size _).size | exact B5.size | (simp <;> omega)) ?_; intro v5 w5 o5 g5w _; have B5 : Below w2.heap.size w2 w5 := (B4.alloc B4.size _).grown g5w (B4.alloc B4.size _).size (fun j hj => (o4.lt j hj).1))
                | (refine step_app rfl (.tmp 32) (.tmp 34) 24 rfl w2.heap.size 26 _ 5 40 Try.underlying24 info26 rfl (by omega) v4 _ _ (by simp [Act.eval, Act.put]) (by with_reducible exact o4) (some ⟨(w2.heap.size + 1), 0, none⟩) 1 1 x.cells (by simp [Act.eval, Act.put]) HX5.out (RX4) (oneCell_x x) (by unfold maxLen; omega) (by omega) (by first | exact Nat.le_refl _ | exact B4.size | exact (B4.alloc B4.size _).size | exact B5.size | (simp <;> omega)) ?_; intro v5 w5 o5 g5w _; have B5 : Below w2.heap.size w2 w5 := B4.grown g5w B4.size (fun j hj => (o4.lt j hj).1))
                | (refine step_app rfl (.tmp 32) (.tmp 34) 24 rfl w2.heap.size 26 _ 5 40 Try.underlying24 info26 rfl (by omega) v4 _ _ (by simp [Act.eval, Act.put]) (by with_reducible exact o4) (some ⟨w2.heap.size, 0, none⟩) 1 1 x.cells (by simp [Act.eval, Act.put]) HX5.out (RX4) (oneCell_x x) (by unfold maxLen; omega) (by omega) (by first | exact Nat.le_refl _ | exact B4.size | exact (B4.alloc B4.size _).size | exact B5.size | (simp <;> omega)) ?_; intro v5 w5 o5 g5w _; have B5 : Below w2.heap.size w2 w5 := B4.grown g5w B4.size (fun j hj => (o4.lt j hj).1))
                | (refine step_app rfl (.tmp 35) (.tmp 38) 24 rfl w2.heap.size 26 _ 5 40 Try.underlying24 info26 rfl (by omega) v5 _ _ (by simp [Act.eval, Act.put]) (by with_reducible exact o5) (some ⟨g, 0 + n * 5, none⟩) 0 (c - n) (cells5 (xs.drop n)) (by simp [Act.eval, Act.put]) HD5.out (.inl (List.eq_nil_of_length_eq_zero HD5.out)) (oneCell_cells5 _) (by unfold maxLen; omega) (by omega) (by first | exact Nat.le_refl _ | exact B4.size | exact (B4.alloc B4.size _).size | exact B5.size | (simp <;> omega)) ?_; intro v6 w6 o6 g6w _; have B6 : Below w2.heap.size w2 w6 := B5.grown g6w B5.size (fun j hj => (o5.lt j hj).1)))
              all_goals go_goals
              all_goals (
                have EC : [] ++ cells5 (xs.take n) ++ x.cells ++ cells5 (xs.drop n) = cells5 (putL xs x n) := by rw [cells5_putL, List.nil_append, List.append_assoc]
                have EN : 0 + n + 1 + 0 = n + 1 := by omega
                rw [EC, EN] at o6
                clear EC EN
                have hb6 : Below w.heap.size w w6 := HBR.out.trans (B6.mono HBR.out.size)
                have o6' := own_mono o6 HBR.out.size
                obtain ⟨A', c', rfl⟩ := own_form o6'
                have R6 := Lib.hid (Rd.of_own o6')
                have O6 := Lib.hid o6'
                clear o6 o6' o5 o4 g4w g5w g6w B4 B5 B6 f0 f1 f2 f3 f4 OA OB OC BBA BBB BBC RAA RAB RAC RXB RXC
                go_wp2_with fail
                refine (C5.out n _ _ _ HKN.out R6.out).mono ?_
                rintro e w7 ⟨rfl, b7⟩
                have HB7 := hb6.trans (b7.mono hb6.size)
                have O7 := own_below O6.out b7
                obtain ⟨z, hz⟩ : ∃ z, z = insL (putL xs x n) := ⟨_, rfl⟩
                rw [← hz]
                have HZ := Lib.hid hz
                have HPL : Hid ((putL xs x n).length = n + 1) := Lib.hid (by rw [putL_len x (by have := HN.out; have := HKN.out; omega), HN.out])
                clear hz
                cases z with
                | true =>
                  go_wp2
                  go_ret2
                  rw [HAV.out.1, HAV.out.2, ← HZ.out]
                  refine ⟨.slice A' (n + 1) c', rfl, ?_, HB7⟩
                  simp only [sgW, if_true, HPL.out]
                  exact O7
                | false =>
                  go_wp2
                  go_ret2
                  rw [HAV.out.1, HAV.out.2, ← HZ.out]
                  exact ⟨_, rfl, own_empty _ _ _ _ HB7.size, HB7.alloc HB7.size _⟩)
            · go_wp2_with fail
              have HK5 := Lib.hid (show (cells5 (xs.take k)).length = k * 5 by have h2 := length_cells5 (xs.take k); rw [List.length_take] at h2; have := HN.out; omega)
              have HD5 := Lib.hid (show (cells5 (xs.drop k)).length = (n - k) * 5 by have h2 := length_cells5 (xs.drop k); rw [List.length_drop] at h2; have := HN.out; omega)
              have HX5 := Lib.hid (show x.cells.length = 1 * 5 from rfl)
              have OA : Hid (((w2.alloc (.cells #[] 26)).drew).ownsRow w2.heap.size 26 5 (.slice (some ⟨w2.heap.size, 0, none⟩) 0 0) 0 []) := Lib.hid (own_empty w2 _ _ _ (Nat.le_refl _))
              have BBA : Hid (Below w2.heap.size w2 ((w2.alloc (.cells #[] 26)).drew)) := Lib.hid ((Below.refl _ _).alloc (Nat.le_refl _) _).drew
              have RAA : Hid (Rd ((w2.alloc (.cells #[] 26)).drew) (some ⟨g, 0, none⟩) (cells5 (xs.take k))) := Lib.hid (rd_takeT (HR.out.below BBA.out) k)
              have OB : Hid ((((w2.alloc (.cells #[] 26)).alloc (.cells #[.int .i64 x.a, .int .i64 x.b, .int .i64 x.c, .int .i64 x.d, .int .i64 x.e] 26)).drew).ownsRow w2.heap.size 26 5 (.slice (some ⟨w2.heap.size, 0, none⟩) 0 0) 0 []) := Lib.hid ((own_empty w2 _ _ _ (Nat.le_refl _)).alloc _)
              have BBB : Hid (Below w2.heap.size w2 (((w2.alloc (.cells #[] 26)).alloc (.cells #[.int .i64 x.a, .int .i64 x.b, .int .i64 x.c, .int .i64 x.d, .int .i64 x.e] 26)).drew)) := Lib.hid ((((Below.refl _ _).alloc (Nat.le_refl _) _).alloc (by simp) _).drew)
              have RXB : Hid (Rd (((w2.alloc (.cells #[] 26)).alloc (.cells #[.int .i64 x.a, .int .i64 x.b, .int .i64 x.c, .int .i64 x.d, .int .i64 x.e] 26)).drew) (some ⟨w2.heap.size + 1, 0, none⟩) x.cells) := Lib.hid (rd_new #[.int .i64 x.a, .int .i64 x.b, .int .i64 x.c, .int .i64 x.d, .int .i64 x.e] 26 (by simp))
              have RAB : Hid (Rd (((w2.alloc (.cells #[] 26)).alloc (.cells #[.int .i64 x.a, .int .i64 x.b, .int .i64 x.c, .int .i64 x.d, .int .i64 x.e] 26)).drew) (some ⟨g, 0, none⟩) (cells5 (xs.take k))) := Lib.hid (rd_takeT (HR.out.below BBB.out) k)
              have OC : Hid ((((w2.alloc (.cells #[.int .i64 x.a, .int .i64 x.b, .int .i64 x.c, .int .i64 x.d, .int .i64 x.e] 26)).alloc (.cells #[] 26)).drew).ownsRow w2.heap.size 26 5 (.slice (some ⟨w2.heap.size + 1, 0, none⟩) 0 0) 0 []) := Lib.hid (own_empty' (by simp) (by simp))
              have BBC : Hid (Below w2.heap.size w2 (((w2.alloc (.cells #[.int .i64 x.a, .int .i64 x.b, .int .i64 x.c, .int .i64 x.d, .int .i64 x.e] 26)).alloc (.cells #[] 26)).drew)) := Lib.hid ((((Below.refl _ _).alloc (Nat.le_refl _) _).alloc (by simp) _).drew)
              have RXC : Hid (Rd (((w2.alloc (.cells #[.int .i64 x.a, .int .i64 x.b, .int .i64 x.c, .int .i64 x.d, .int .i64 x.e] 26)).alloc (.cells #[] 26)).drew) (some ⟨w2.heap.size, 0, none⟩) x.cells) := Lib.hid ((rd_new #[.int .i64 x.a, .int .i64 x.b, .int .i64 x.c, .int .i64 x.d, .int .i64 x.e] 26 rfl).alloc _)
              have RAC : Hid (Rd (((w2.alloc (.cells #[.int .i64 x.a, .int .i64 x.b, .int .i64 x.c, .int .i64 x.d, .int .i64 x.e] 26)).alloc (.cells #[] 26)).drew) (some ⟨g, 0, none⟩) (cells5 (xs.take k))) := Lib.hid (rd_takeT (HR.out.below BBC.out) k)
              go_region_held3 (fun w' => w'.cell? ⟨w.heap.size, 0, none⟩ = some (.int .i64 x.a) ∧ w'.cell? ⟨w.heap.size, 1, none⟩ = some (.int .i64 x.b) ∧ w'.cell? ⟨w.heap.size, 2, none⟩ = some (.int .i64 x.c) ∧ w'.cell? ⟨w.heap.size, 3, none⟩ = some (.int .i64 x.d) ∧ w'.cell? ⟨w.heap.size, 4, none⟩ = some (.int .i64 x.e)) (first | go_keep | exact ⟨(B6.cell (p := ⟨w.heap.size, 0, none⟩) hslr).trans f0, (B6.cell (p := ⟨w.heap.size, 1, none⟩) hslr).trans f1, (B6.cell (p := ⟨w.heap.size, 2, none⟩) hslr).trans f2, (B6.cell (p := ⟨w.heap.size, 3, none⟩) hslr).trans f3, (B6.cell (p := ⟨w.heap.size, 4, none⟩) hslr).trans f4⟩ | exact ⟨(B5.cell (p := ⟨w.heap.size, 0, none⟩) hslr).trans f0, (B5.cell (p := ⟨w.heap.size, 1, none⟩) hslr).trans f1, (B5.cell (p := ⟨w.heap.size, 2, none⟩) hslr).trans f2, (B5.cell (p := ⟨w.heap.size, 3, none⟩) hslr).trans f3, (B5.cell (p := ⟨w.heap.size, 4, none⟩) hslr).trans f4⟩ | exact ⟨(B4.cell (p := ⟨w.heap.size, 0, none⟩) hslr).trans f0, (B4.cell (p := ⟨w.heap.size, 1, none⟩) hslr).trans f1, (B4.cell (p := ⟨w.heap.size, 2, none⟩) hslr).trans f2, (B4.cell (p := ⟨w.heap.size, 3, none⟩) hslr).trans f3, (B4.cell (p := ⟨w.heap.size, 4, none⟩) hslr).trans f4⟩) (first
                | (refine step_app rfl (.tmp 28) (.tmp 31) 24 rfl w2.heap.size 26 _ 5 40 Try.underlying24 info26 rfl (by omega) (.slice (some ⟨w2.heap.size, 0, none⟩) 0 0) 0 [] (by simp [Act.eval, Act.put]) (by with_reducible exact OA.out) (some ⟨g, 0, none⟩) k c (cells5 (xs.take k)) (by simp [Act.eval, Act.put]) HK5.out (RAA.out) (oneCell_cells5 _) (by unfold maxLen; omega) (by omega) (by first | exact Nat.le_refl _ | exact B4.size | exact (B4.alloc B4.size _).size | exact B5.size | (simp <;> omega)) ?_; intro v4 w4 o4 g4w _; have B4 := BBA.out.grown g4w BBA.out.size (fun j hj => (OA.out.lt j hj).1))
                | (refine step_app rfl (.tmp 28) (.tmp 31) 24 rfl w2.heap.size 26 _ 5 40 Try.underlying24 info26 rfl (by omega) (.slice (some ⟨w2.heap.size, 0, none⟩) 0 0) 0 [] (by simp [Act.eval, Act.put]) (by with_reducible exact OB.out) (some ⟨g, 0, none⟩) k c (cells5 (xs.take k)) (by simp [Act.eval, Act.put]) HK5.out (RAB.out) (oneCell_cells5 _) (by unfold maxLen; omega) (by omega) (by first | exact Nat.le_refl _ | exact B4.size | exact (B4.alloc B4.size _).size | exact B5.size | (simp <;> omega)) ?_; intro v4 w4 o4 g4w _; have B4 := BBB.out.grown g4w BBB.out.size (fun j hj => (OB.out.lt j hj).1); have RX4 := rd_grown g4w RXB.out (by simp <;> omega) (by simp [Value.ownBlock]))
                | (refine step_app rfl (.tmp 28) (.tmp 31) 24 rfl w2.heap.size 26 _ 5 40 Try.underlying24 info26 rfl (by omega) (.slice (some ⟨w2.heap.size + 1, 0, none⟩) 0 0) 0 [] (by simp [Act.eval, Act.put]) (by with_reducible exact OC.out) (some ⟨g, 0, none⟩) k c (cells5 (xs.take k)) (by simp [Act.eval, Act.put]) HK5.out (RAC.out) (oneCell_cells5 _) (by unfold maxLen; omega) (by omega) (by first | exact Nat.le_refl _ | exact B4.size | exact (B4.alloc B4.size _).size | exact B5.size | (simp <;> omega)) ?_; intro v4 w4 o4 g4w _; have B4 := BBC.out.grown g4w BBC.out.size (fun j hj => (OC.out.lt j hj).1); have RX4 := rd_grown g4w RXC.out (by simp <;> omega) (by simp [Value.ownBlock]))
                | (refine step_app rfl (.tmp 32) (.tmp 34) 24 rfl w2.heap.size 26 _ 5 40 Try.underlying24 info26 rfl (by omega) v4 _ _ (by simp [Act.eval, Act.put]) (by with_reducible exact o4.alloc _) (some ⟨w4.heap.size, 0, none⟩) 1 1 x.cells (by simp [Act.eval, Act.put]) HX5.out (rd_new #[.int .i64 x.a, .int .i64 x.b, .int .i64 x.c, .int .i64 x.d, .int .i64 x.e] 26 rfl) (oneCell_x x) (by unfold maxLen; omega) (by omega) (by first | exact Nat.le_refl _ | exact B4.size | exact (B4.alloc B4.size _).size | exact B5.size | (simp <;> omega)) ?_; intro v5 w5 o5 g5w _; have B5 : Below w2.heap.size w2 w5 := (B4.alloc B4.size _).grown g5w (B4.alloc B4.size _).size (fun j hj => (o4.lt j hj).1))
                | (refine step_app rfl (.tmp 32) (.tmp 34) 24 rfl w2.heap.size 26 _ 5 40 Try.underlying24 info26 rfl (by omega) v4 _ _ (by simp [Act.eval, Act.put]) (by with_reducible exact o4) (some ⟨(w2.heap.size + 1), 0, none⟩) 1 1 x.cells (by simp [Act.eval, Act.put]) HX5.out (RX4) (oneCell_x x) (by unfold maxLen; omega) (by omega) (by first | exact Nat.le_refl _ | exact B4.size | exact (B4.alloc B4.size _).size | exact B5.size | (simp <;> omega)) ?_; intro v5 w5 o5 g5w _; have B5 : Below w2.heap.size w2 w5 := B4.grown g5w B4.size (fun j hj => (o4.lt j hj).1))
                | (refine step_app rfl (.tmp 32) (.tmp 34) 24 rfl w2.heap.size 26 _ 5 40 Try.underlying24 info26 rfl (by omega) v4 _ _ (by simp [Act.eval, Act.put]) (by with_reducible exact o4) (some ⟨w2.heap.size, 0, none⟩) 1 1 x.cells (by simp [Act.eval, Act.put]) HX5.out (RX4) (oneCell_x x) (by unfold maxLen; omega) (by omega) (by first | exact Nat.le_refl _ | exact B4.size | exact (B4.alloc B4.size _).size | exact B5.size | (simp <;> omega)) ?_; intro v5 w5 o5 g5w _; have B5 : Below w2.heap.size w2 w5 := B4.grown g5w B4.size (fun j hj => (o4.lt j hj).1))
                | (refine step_app rfl (.tmp 35) (.tmp 38) 24 rfl w2.heap.size 26 _ 5 40 Try.underlying24 info26 rfl (by omega) v5 _ _ (by simp [Act.eval, Act.put]) (by with_reducible exact o5) (some ⟨g, 0 + k * 5, none⟩) (n - k) (c - k) (cells5 (xs.drop k)) (by simp [Act.eval, Act.put]) HD5.out (rd_dropT (HR.out.below B5) k) (oneCell_cells5 _) (by unfold maxLen; omega) (by omega) (by first | exact Nat.le_refl _ | exact B4.size | exact (B4.alloc B4.size _).size | exact B5.size | (simp <;> omega)) ?_; intro v6 w6 o6 g6w _; have B6 : Below w2.heap.size w2 w6 := B5.grown g6w B5.size (fun j hj => (o5.lt j hj).1)))
              all_goals go_goals
              all_goals (
                have EC : [] ++ cells5 (xs.take k) ++ x.cells ++ cells5 (xs.drop k) = cells5 (putL xs x k) := by rw [cells5_putL, List.nil_append, List.append_assoc]
                have EN : 0 + k + 1 + (n - k) = n + 1 := by omega
                rw [EC, EN] at o6
                clear EC EN
                have hb6 : Below w.heap.size w w6 := HBR.out.trans (B6.mono HBR.out.size)
                have o6' := own_mono o6 HBR.out.size
                obtain ⟨A', c', rfl⟩ := own_form o6'
                have R6 := Lib.hid (Rd.of_own o6')
                have O6 := Lib.hid o6'
                clear o6 o6' o5 o4 g4w g5w g6w B4 B5 B6 f0 f1 f2 f3 f4 OA OB OC BBA BBB BBC RAA RAB RAC RXB RXC
                go_wp2_with fail
                refine (C5.out k _ _ _ HKN.out R6.out).mono ?_
                rintro e w7 ⟨rfl, b7⟩
                have HB7 := hb6.trans (b7.mono hb6.size)
                have O7 := own_below O6.out b7
                obtain ⟨z, hz⟩ : ∃ z, z = insL (putL xs x k) := ⟨_, rfl⟩
                rw [← hz]
                have HZ := Lib.hid hz
                have HPL : Hid ((putL xs x k).length = n + 1) := Lib.hid (by rw [putL_len x (by have := HN.out; have := HKN.out; omega), HN.out])
                clear hz
                cases z with
                | true =>
                  go_wp2
                  go_ret2
                  rw [HAV.out.1, HAV.out.2, ← HZ.out]
                  refine ⟨.slice A' (n + 1) c', rfl, ?_, HB7⟩
                  simp only [sgW, if_true, HPL.out]
                  exact O7
                | false =>
                  go_wp2
                  go_ret2
                  rw [HAV.out.1, HAV.out.2, ← HZ.out]
                  exact ⟨_, rfl, own_empty _ _ _ _ HB7.size, HB7.alloc HB7.size _⟩)
end Go.Proofs.Ytcibibkainablaa
