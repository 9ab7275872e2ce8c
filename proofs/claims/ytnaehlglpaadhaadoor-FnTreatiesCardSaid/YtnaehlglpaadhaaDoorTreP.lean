/- SignTreaty of the specification. -/
import Derived.Test.YtnaehlglpaadhaaDoorTreO
import Derived.Test.YtnaehlglpaadhaaDoorTreB
import Derived.Test.YtnaehlglpaadhaaDoorTreG
namespace Go.Proofs.YtnaehlglpaadhaaDoor
set_option linter.unusedVariables false
set_option linter.unusedSimpArgs false
open Go.RowKit

/-- append, as one step of a region that draws its order. -/
theorem step_app {P : Program} {ops : Array Oper} {o : Oper} {a : Act} {w : World} {K : Act → World → Prop} {Q : Exit → Act → World → Prop} {E : Prop} (hgd : o.guard = none) (s x : Operand) (t : TypeId)
    (ho : o.op = .call { callee := .builtin .append, args := #[s, x], argTypes := #[t, t] })
    (base : Nat) (e : TypeId) (z : Value) (size bytes : Nat) (ht : P.underlying t = some (.slice e)) (hinfo : (P.info? e).map (fun i => (i.zero, i.size, i.bytes)) = some (some z, size, bytes))
    (hzs : z.cells.size = size) (hsz : 0 < size) (v : Value) (n : Nat) (xs : List Value) (hs : a.eval s = v) (hown : w.ownsRow base e size v n xs)
    (A : Option Addr) (m c : Nat) (news : List Value) (hx : a.eval x = .slice A m c) (hl : news.length = m * size) (hr : Rd w A news) (h1 : ∀ u ∈ news, u.oneCell' = true)
    (h63 : n + m ≤ maxLen) (hbytes : (n + m) * bytes ≤ 140737488355328) (hbase : base ≤ w.heap.size)
    (h : ∀ v' w', w'.ownsRow base e size v' (n + m) (xs ++ news) → w.grownBy w' v.ownBlock → (v'.ownBlock = v.ownBlock ∨ v'.ownBlock = some w.heap.size) → K (a.put o.dst v') w') :
    if Region.wanted o (yielded ops a.tmps) = true then Oper.wp P o a w K Q else E := by
  have hw : Region.wanted o (yielded ops a.tmps) = true := by simp [Region.wanted, hgd]
  rw [if_pos hw]
  exact wp_app w s x t ho base e z size bytes ht hinfo hzs hsz v n xs hs hown A m c news hx hl hr h1 h63 hbytes hbase h

theorem rd_dropT {w : World} {g o : Nat} {xs : List R5} (h : Rd w (some ⟨g, o, none⟩) (cells5 xs)) (k : Nat) : Rd w (some ⟨g, o + k * 5, none⟩) (cells5 (xs.drop k)) := by
  rcases h with h | ⟨g', o', e, hg, hc⟩
  · left
    rw [cells5_drop, h, List.drop_nil]
  · injection e with e
    injection e with e1 e2
    subst e1; subst e2
    refine .inr ⟨g, o + k * 5, rfl, hg, fun j v hv => ?_⟩
    rw [cells5_drop, List.getElem?_drop] at hv
    rw [Nat.add_assoc]
    exact hc _ v hv
theorem rd_takeT {w : World} {A : Option Addr} {xs : List R5} (h : Rd w A (cells5 xs)) (k : Nat) : Rd w A (cells5 (xs.take k)) := by
  have e : cells5 xs = cells5 (xs.take k) ++ cells5 (xs.drop k) := by rw [← cells5_append, List.take_append_drop]
  rw [e] at h
  exact Rd.prefix_ h

theorem own_empty' {w : World} {base e size b : Nat} (hb : b = w.heap.size) (hb2 : base ≤ w.heap.size) : (w.alloc (.cells #[] e)).ownsRow base e size (.slice (some ⟨b, 0, none⟩) 0 0) 0 [] := by
  subst hb; exact own_empty w base e size hb2
theorem rd_grown {w w' : World} {row : Option Nat} {g o : Nat} {cs : List Value} (hg : w.grownBy w' row) (h : Rd w (some ⟨g, o, none⟩) cs) (hlt : g < w.heap.size) (hne : some g ≠ row) : Rd w' (some ⟨g, o, none⟩) cs := by
  rcases h with h | ⟨g', o', e, hg', hc⟩
  · exact .inl h
  · injection e with e
    injection e with e1 e2
    subst e1; subst e2
    exact .inr ⟨g, o, rfl, Nat.lt_of_lt_of_le hg' hg.size, fun j v hv => (hg.cell_far ⟨g, o + j, none⟩ hg' hne).trans (hc j v hv)⟩

set_option maxRecDepth 20000 in
set_option maxHeartbeats 4000000 in
theorem specSignTreaty_any (A : Option Addr) (n c : Nat) (xs : List R5) (x : R5) (w : World) (hn : xs.length = n) (hA : Rd w A (cells5 xs)) (h20 : n ≤ 1048576) (hc : n ≤ c) (hcm : c ≤ maxLen) :
    Calls Tryd.prog 21 #[.slice A n c, .agg #[.int .i64 x.a, .int .i64 x.b, .int .i64 x.c, .int .i64 x.d, .int .i64 x.e]] w (RetOwnB 44 5 (sgV xs x).length (cells5 (sgV xs x)) (sgB xs x) w) := by
  have C0 := Lib.hid (fun w h => l25Good_any A n c xs w hn h h20)
  have C1 := Lib.hid (fun w => l25One_any x w)
  cases hv : trL xs with
  | false =>
    rw [hv] at C0
    have e : sgB xs x = false := by simp [sgB, hv]
    rw [show sgV xs x = [] by simp [sgV, e], e]
    clear e hv
    go_enter Tryd.func21, Tryd.ntmps21
    go_wp2_with fail
    refine (C0.out _ (hA.alloc _)).mono ?_
    rintro e w1 ⟨rfl, b1⟩
    go_wp2
    go_ret2
    have hb := ((Below.refl w.heap.size w).alloc (Nat.le_refl _) (Obj.cells #[.int .i64 x.a, .int .i64 x.b, .int .i64 x.c, .int .i64 x.d, .int .i64 x.e] 44)).trans (b1.mono (by simp))
    exact ⟨_, rfl, own_empty _ _ _ _ hb.size, hb.alloc hb.size _⟩
  | true =>
    rw [hv] at C0
    have n20 := trL_len hv
    cases hb : trB x with
    | false =>
      rw [hb] at C1
      have e : sgB xs x = false := by simp [sgB, hb]
      rw [show sgV xs x = [] by simp [sgV, e], e]
      clear e hv hb
      go_enter Tryd.func21, Tryd.ntmps21
      go_wp2_with fail
      refine (C0.out _ (hA.alloc _)).mono ?_
      rintro e w1 ⟨rfl, b1⟩
      have hs1 := b1.size
      simp only [World.size_alloc] at hs1
      have e0 := (b1.cell (p := ⟨w.heap.size, 0, none⟩) (by simp)).trans (World.cell?_alloc_at _ _ _ _ rfl)
      have e1 := (b1.cell (p := ⟨w.heap.size, 1, none⟩) (by simp)).trans (World.cell?_alloc_at _ _ _ _ rfl)
      have e2 := (b1.cell (p := ⟨w.heap.size, 2, none⟩) (by simp)).trans (World.cell?_alloc_at _ _ _ _ rfl)
      have e3 := (b1.cell (p := ⟨w.heap.size, 3, none⟩) (by simp)).trans (World.cell?_alloc_at _ _ _ _ rfl)
      have e4 := (b1.cell (p := ⟨w.heap.size, 4, none⟩) (by simp)).trans (World.cell?_alloc_at _ _ _ _ rfl)
      go_wp2_with fail
      refine (C1.out _).mono ?_
      rintro e w2 ⟨rfl, b2⟩
      go_wp2
      go_ret2
      have hb := ((Below.refl w.heap.size w).alloc (Nat.le_refl _) (Obj.cells #[.int .i64 x.a, .int .i64 x.b, .int .i64 x.c, .int .i64 x.d, .int .i64 x.e] 44)).trans ((b1.mono (by simp)).trans (b2.mono (by omega)))
      exact ⟨_, rfl, own_empty _ _ _ _ hb.size, hb.alloc hb.size _⟩
    | true =>
      rw [hb] at C1
      have C4 := Lib.hid (fun y w hy => l25Key_any y w hy)
      have C5 := Lib.hid (fun A' c' w h => l25Good_any A' (n + 1) c' (sgL xs x) w (by rw [length_sgL, hn]) h (by omega))
      have HP := Lib.hid (cells5_sgL xs x)
      have hpl := posV_le xs x
      rw [hn] at hpl
      have e : sgB xs x = trL (sgL xs x) := by simp [sgB, hv, hb]
      obtain ⟨z, hz⟩ : ∃ z, z = trL (sgL xs x) := ⟨_, rfl⟩
      have hlen := Lib.hid (length_sgL xs x)
      have HN := Lib.hid hn
      have hV : sgV xs x = sgW z (sgL xs x) := by rw [sgV, e, hz, sgW]
      rw [hV, e, ← hz]
      rw [← hz] at C5
      have HA := Lib.hid hA
      have HV := Lib.hid hv
      have HB := Lib.hid hb
      clear hv hb e hz hV hA
      go_enter Tryd.func21, Tryd.ntmps21
      go_wp2_with fail
      refine (C0.out _ (HA.out.alloc _)).mono ?_
      rintro e w1 ⟨rfl, b1⟩
      have hs1 := b1.size
      simp only [World.size_alloc] at hs1
      have e0 := (b1.cell (p := ⟨w.heap.size, 0, none⟩) (by simp)).trans (World.cell?_alloc_at _ _ _ _ rfl)
      have e1 := (b1.cell (p := ⟨w.heap.size, 1, none⟩) (by simp)).trans (World.cell?_alloc_at _ _ _ _ rfl)
      have e2 := (b1.cell (p := ⟨w.heap.size, 2, none⟩) (by simp)).trans (World.cell?_alloc_at _ _ _ _ rfl)
      have e3 := (b1.cell (p := ⟨w.heap.size, 3, none⟩) (by simp)).trans (World.cell?_alloc_at _ _ _ _ rfl)
      have e4 := (b1.cell (p := ⟨w.heap.size, 4, none⟩) (by simp)).trans (World.cell?_alloc_at _ _ _ _ rfl)
      have hb1 := ((Below.refl w.heap.size w).alloc (Nat.le_refl _) (Obj.cells #[.int .i64 x.a, .int .i64 x.b, .int .i64 x.c, .int .i64 x.d, .int .i64 x.e] 44)).trans (b1.mono (by simp))
      go_wp2_with fail
      refine (C1.out _).mono ?_
      rintro e w2 ⟨rfl, b2⟩
      have hb2 := hb1.trans (b2.mono hb1.size)
      have hs2 := b2.size
      obtain ⟨bc2, bf2⟩ := bcell b2
      have hsl2 : w.heap.size < w2.heap.size := by omega
      have d0 : w2.cell? ⟨w.heap.size, 0, none⟩ = some (.int .i64 x.a) := (bc2 w.heap.size 0 (by omega)).trans e0
      have d1 : w2.cell? ⟨w.heap.size, 1, none⟩ = some (.int .i64 x.b) := (bc2 w.heap.size 1 (by omega)).trans e1
      have d2 : w2.cell? ⟨w.heap.size, 2, none⟩ = some (.int .i64 x.c) := (bc2 w.heap.size 2 (by omega)).trans e2
      have d3 : w2.cell? ⟨w.heap.size, 3, none⟩ = some (.int .i64 x.d) := (bc2 w.heap.size 3 (by omega)).trans e3
      have d4 : w2.cell? ⟨w.heap.size, 4, none⟩ = some (.int .i64 x.e) := (bc2 w.heap.size 4 (by omega)).trans e4
      have HA2 := Lib.hid (HA.out.below hb2)
      have HB2 := Lib.hid hb2
      clear bc2 bf2 e0 e1 e2 e3 e4 b1 b2 hb1 hb2 hs1 hs2
      go_wp2_with fail
      go_loopw [6] (fun i wr => ∃ k : Nat, i = .int .i64 k ∧ k ≤ n ∧ (∀ (t : Nat) (y : R5), t < k → xs[t]? = some y → trLess y x = true) ∧ Below w2.heap.size w2 wr) (fun i _ => (n - intOf i).toNat)
      case atStart => exact ⟨0, rfl, by omega, fun t y ht => by omega, Below.refl _ _⟩
      case round =>
        obtain ⟨k, rfl, hkn, h1, hbr⟩ := hrel
        have H1 := Lib.hid h1
        clear h1
        have hsr := hbr.size
        obtain ⟨bc, bf⟩ := bcell hbr
        have f0 := (bc w.heap.size 0 (by omega)).trans d0
        have f1 := (bc w.heap.size 1 (by omega)).trans d1
        have f2 := (bc w.heap.size 2 (by omega)).trans d2
        have f3 := (bc w.heap.size 3 (by omega)).trans d3
        have f4 := (bc w.heap.size 4 (by omega)).trans d4
        have hslr : w.heap.size < wr.heap.size := by omega
        have HRr := Lib.hid (HA2.out.below hbr)
        clear bc bf
        by_cases hlt : k < n
        · obtain ⟨y, hy⟩ : ∃ y, xs[k]? = some y := ⟨xs[k]'(by omega), List.getElem?_eq_getElem (by omega)⟩
          obtain ⟨g, o, hAe, hg, c0, c1, c2, c3, c4⟩ := HRr.out.at5 hy
          have HVY := Lib.hid (trL_at HV.out hy)
          have HY := Lib.hid hy
          have HK := Lib.hid (trKey_less HVY.out HB.out)
          subst hAe
          clear hy
          cases hq : trLess y x with
          | true =>
            rw [hq] at HK
            have hq' : trKey y < trKey x := by simpa using HK.out
            have hlt' : (k : Int) < (n : Int) := by omega
            have HQ := Lib.hid hq
            clear hq
            go_wp2_with fail
            refine wp_region_lat wr.heap.size (by kernel_rfl) (by kernel_rfl) ?_
            have LC := fun (u : Lat wr.heap.size wr) => u.cell
            repeat (go_big_quiet_step ((first | (go_at_call 55; (with_reducible exact lat_call _ (Nat.le_refl _) (C4.out _ _ HVY.out))) | (go_at_call 55; (with_reducible exact lat_call _ (Nat.le_refl _) (C4.out _ _ HB.out))))))
            refine wpQuiet_nil ?_
            intro w3 b3
            clear LC
            clear c0 c1 c2 c3 c4 f0 f1 f2 f3 f4
            have HB3 := Lib.hid (hbr.trans (b3.mono hsr))
            go_wp2
            go_roundw
            case rel =>
              refine ⟨k + 1, by go_num, by omega, fun t u ht hu => ?_, HB3.out⟩
              rcases Nat.lt_or_eq_of_le (show t ≤ k by omega) with h | h
              · exact H1.out t u h hu
              · subst h; rw [HY.out] at hu; injection hu with hu; subst hu; exact HQ.out
            case measure => simp [intOf]; omega
          | false =>
            rw [hq] at HK
            have hq' : ¬ trKey y < trKey x := by simpa using HK.out
            have hlt' : (k : Int) < (n : Int) := by omega
            have HPX := Lib.hid (posV_eq (x := x) (xs := xs) (k := k) (by rw [HN.out]; omega) H1.out (fun u hu => by rw [HY.out] at hu; injection hu with hu; subst hu; exact hq))
            clear hq
            have hd0 : decide (trKey y < trKey x) = false := by simp; omega
            go_wp2_with fail
            refine wp_region_lat wr.heap.size (by kernel_rfl) (by kernel_rfl) ?_
            have LC := fun (u : Lat wr.heap.size wr) => u.cell
            repeat (go_big_quiet_step ((first | (go_at_call 55; (with_reducible exact lat_call _ (Nat.le_refl _) (C4.out _ _ HVY.out))) | (go_at_call 55; (with_reducible exact lat_call _ (Nat.le_refl _) (C4.out _ _ HB.out))))))
            refine wpQuiet_nil ?_
            intro w3 b3
            clear LC
            clear c0 c1 c2 c3 c4
            have HB3 := Lib.hid (HB2.out.trans ((hbr.trans (b3.mono hsr)).mono HB2.out.size))
            obtain ⟨bc3, bf3⟩ := bcell b3
            have g0 : w3.cell? ⟨w.heap.size, 0, none⟩ = some (.int .i64 x.a) := (bc3 w.heap.size 0 hslr).trans f0
            have g1 : w3.cell? ⟨w.heap.size, 1, none⟩ = some (.int .i64 x.b) := (bc3 w.heap.size 1 hslr).trans f1
            have g2 : w3.cell? ⟨w.heap.size, 2, none⟩ = some (.int .i64 x.c) := (bc3 w.heap.size 2 hslr).trans f2
            have g3 : w3.cell? ⟨w.heap.size, 3, none⟩ = some (.int .i64 x.d) := (bc3 w.heap.size 3 hslr).trans f3
            have g4 : w3.cell? ⟨w.heap.size, 4, none⟩ = some (.int .i64 x.e) := (bc3 w.heap.size 4 hslr).trans f4
            have hsl3 : w.heap.size < w3.heap.size := by have := b3.size; omega
            have HR3 := Lib.hid (HA.out.below HB3.out)
            have hs3 : w.heap.size ≤ w3.heap.size := by omega
            clear f0 f1 f2 f3 f4 bc3 bf3 HRr b3 hbr
            go_wp2_with fail
            have hk0 : (0 : Int) ≤ (k : Int) := by omega
            have hk2 : (k : Int) ≤ (c : Int) := by omega
            have hk3 : k ≤ c := by omega
            have hk1 : (k : Int) ≤ (n : Int) := by omega
            have hck : ¬ c = k := by omega
            have hck2 : ¬ k = c := by omega
            have HK5 := Lib.hid (show (cells5 (xs.take k)).length = k * 5 by have h1 := HN.out; have h2 := length_cells5 (xs.take k); rw [List.length_take] at h2; omega)
            have HD5 := Lib.hid (show (cells5 (xs.drop k)).length = (n - k) * 5 by have h1 := HN.out; have h2 := length_cells5 (xs.drop k); rw [List.length_drop] at h2; omega)
            have HX5 := Lib.hid (show x.cells.length = 1 * 5 from rfl)
            have HS0 := Lib.hid (Nat.le_refl w3.heap.size)
            have OA : Hid (((w3.alloc (.cells #[] 44)).drew).ownsRow w3.heap.size 44 5 (.slice (some ⟨w3.heap.size, 0, none⟩) 0 0) 0 []) := Lib.hid (own_empty w3 _ _ _ (Nat.le_refl _))
            have BBA : Hid (Below w3.heap.size w3 ((w3.alloc (.cells #[] 44)).drew)) := Lib.hid ((Below.refl _ _).alloc (Nat.le_refl _) _).drew
            have RAA : Hid (Rd ((w3.alloc (.cells #[] 44)).drew) (some ⟨g, o, none⟩) (cells5 (xs.take k))) := Lib.hid (rd_takeT (HR3.out.below BBA.out) k)
            have OB : Hid ((((w3.alloc (.cells #[] 44)).alloc (.cells #[.int .i64 x.a, .int .i64 x.b, .int .i64 x.c, .int .i64 x.d, .int .i64 x.e] 44)).drew).ownsRow w3.heap.size 44 5 (.slice (some ⟨w3.heap.size, 0, none⟩) 0 0) 0 []) := Lib.hid ((own_empty w3 _ _ _ (Nat.le_refl _)).alloc _)
            have BBB : Hid (Below w3.heap.size w3 (((w3.alloc (.cells #[] 44)).alloc (.cells #[.int .i64 x.a, .int .i64 x.b, .int .i64 x.c, .int .i64 x.d, .int .i64 x.e] 44)).drew)) := Lib.hid ((((Below.refl _ _).alloc (Nat.le_refl _) _).alloc (by simp) _).drew)
            have RXB : Hid (Rd (((w3.alloc (.cells #[] 44)).alloc (.cells #[.int .i64 x.a, .int .i64 x.b, .int .i64 x.c, .int .i64 x.d, .int .i64 x.e] 44)).drew) (some ⟨w3.heap.size + 1, 0, none⟩) x.cells) := Lib.hid (rd_new #[.int .i64 x.a, .int .i64 x.b, .int .i64 x.c, .int .i64 x.d, .int .i64 x.e] 44 (by simp))
            have RAB : Hid (Rd (((w3.alloc (.cells #[] 44)).alloc (.cells #[.int .i64 x.a, .int .i64 x.b, .int .i64 x.c, .int .i64 x.d, .int .i64 x.e] 44)).drew) (some ⟨g, o, none⟩) (cells5 (xs.take k))) := Lib.hid (rd_takeT (HR3.out.below BBB.out) k)
            have OC : Hid ((((w3.alloc (.cells #[.int .i64 x.a, .int .i64 x.b, .int .i64 x.c, .int .i64 x.d, .int .i64 x.e] 44)).alloc (.cells #[] 44)).drew).ownsRow w3.heap.size 44 5 (.slice (some ⟨(w3.heap.size + 1), 0, none⟩) 0 0) 0 []) := Lib.hid (own_empty' (by simp) (by simp))
            have BBC : Hid (Below w3.heap.size w3 (((w3.alloc (.cells #[.int .i64 x.a, .int .i64 x.b, .int .i64 x.c, .int .i64 x.d, .int .i64 x.e] 44)).alloc (.cells #[] 44)).drew)) := Lib.hid ((((Below.refl _ _).alloc (Nat.le_refl _) _).alloc (by simp) _).drew)
            have RXC : Hid (Rd (((w3.alloc (.cells #[.int .i64 x.a, .int .i64 x.b, .int .i64 x.c, .int .i64 x.d, .int .i64 x.e] 44)).alloc (.cells #[] 44)).drew) (some ⟨w3.heap.size, 0, none⟩) x.cells) := Lib.hid ((rd_new #[.int .i64 x.a, .int .i64 x.b, .int .i64 x.c, .int .i64 x.d, .int .i64 x.e] 44 rfl).alloc _)
            have RAC : Hid (Rd (((w3.alloc (.cells #[.int .i64 x.a, .int .i64 x.b, .int .i64 x.c, .int .i64 x.d, .int .i64 x.e] 44)).alloc (.cells #[] 44)).drew) (some ⟨g, o, none⟩) (cells5 (xs.take k))) := Lib.hid (rd_takeT (HR3.out.below BBC.out) k)
            go_region_held3 (fun w' => w'.cell? ⟨w.heap.size, 0, none⟩ = some (.int .i64 x.a) ∧ w'.cell? ⟨w.heap.size, 1, none⟩ = some (.int .i64 x.b) ∧ w'.cell? ⟨w.heap.size, 2, none⟩ = some (.int .i64 x.c) ∧ w'.cell? ⟨w.heap.size, 3, none⟩ = some (.int .i64 x.d) ∧ w'.cell? ⟨w.heap.size, 4, none⟩ = some (.int .i64 x.e)) (first | go_keep | exact ⟨(B6.cell (p := ⟨w.heap.size, 0, none⟩) hsl3).trans g0, (B6.cell (p := ⟨w.heap.size, 1, none⟩) hsl3).trans g1, (B6.cell (p := ⟨w.heap.size, 2, none⟩) hsl3).trans g2, (B6.cell (p := ⟨w.heap.size, 3, none⟩) hsl3).trans g3, (B6.cell (p := ⟨w.heap.size, 4, none⟩) hsl3).trans g4⟩ | exact ⟨(B5.cell (p := ⟨w.heap.size, 0, none⟩) hsl3).trans g0, (B5.cell (p := ⟨w.heap.size, 1, none⟩) hsl3).trans g1, (B5.cell (p := ⟨w.heap.size, 2, none⟩) hsl3).trans g2, (B5.cell (p := ⟨w.heap.size, 3, none⟩) hsl3).trans g3, (B5.cell (p := ⟨w.heap.size, 4, none⟩) hsl3).trans g4⟩ | exact ⟨(B4.cell (p := ⟨w.heap.size, 0, none⟩) hsl3).trans g0, (B4.cell (p := ⟨w.heap.size, 1, none⟩) hsl3).trans g1, (B4.cell (p := ⟨w.heap.size, 2, none⟩) hsl3).trans g2, (B4.cell (p := ⟨w.heap.size, 3, none⟩) hsl3).trans g3, (B4.cell (p := ⟨w.heap.size, 4, none⟩) hsl3).trans g4⟩) (first
  | (refine step_app rfl (.tmp 33) (.tmp 36) 24 rfl w3.heap.size 44 _ 5 40 Tryd.underlying24 info44 rfl (by omega) (.slice (some ⟨w3.heap.size, 0, none⟩) 0 0) 0 [] (by simp [Act.eval, Act.put]) (by with_reducible exact OA.out) (some ⟨g, o, none⟩) k c (cells5 (xs.take k)) (by simp [Act.eval, Act.put]) HK5.out (RAA.out) (oneCell_cells5 _) (by unfold maxLen; omega) (by omega) (by first | exact HS0.out | exact B4.size | exact (B4.alloc B4.size _).size | exact B5.size | (simp <;> omega)) ?_; intro v4 w4 o4 g4w _; have B4 := BBA.out.grown g4w BBA.out.size (fun j hj => (OA.out.lt j hj).1))
  | (refine step_app rfl (.tmp 33) (.tmp 36) 24 rfl w3.heap.size 44 _ 5 40 Tryd.underlying24 info44 rfl (by omega) (.slice (some ⟨w3.heap.size, 0, none⟩) 0 0) 0 [] (by simp [Act.eval, Act.put]) (by with_reducible exact OB.out) (some ⟨g, o, none⟩) k c (cells5 (xs.take k)) (by simp [Act.eval, Act.put]) HK5.out (RAB.out) (oneCell_cells5 _) (by unfold maxLen; omega) (by omega) (by first | exact HS0.out | exact B4.size | exact (B4.alloc B4.size _).size | exact B5.size | (simp <;> omega)) ?_; intro v4 w4 o4 g4w _; have B4 := BBB.out.grown g4w BBB.out.size (fun j hj => (OB.out.lt j hj).1); have RX4 := rd_grown g4w RXB.out (by simp <;> omega) (by simp [Value.ownBlock]))
  | (refine step_app rfl (.tmp 33) (.tmp 36) 24 rfl w3.heap.size 44 _ 5 40 Tryd.underlying24 info44 rfl (by omega) (.slice (some ⟨w3.heap.size + 1, 0, none⟩) 0 0) 0 [] (by simp [Act.eval, Act.put]) (by with_reducible exact OC.out) (some ⟨g, o, none⟩) k c (cells5 (xs.take k)) (by simp [Act.eval, Act.put]) HK5.out (RAC.out) (oneCell_cells5 _) (by unfold maxLen; omega) (by omega) (by first | exact HS0.out | exact B4.size | exact (B4.alloc B4.size _).size | exact B5.size | (simp <;> omega)) ?_; intro v4 w4 o4 g4w _; have B4 := BBC.out.grown g4w BBC.out.size (fun j hj => (OC.out.lt j hj).1); have RX4 := rd_grown g4w RXC.out (by simp <;> omega) (by simp [Value.ownBlock]))
  | (refine step_app rfl (.tmp 37) (.tmp 39) 24 rfl w3.heap.size 44 _ 5 40 Tryd.underlying24 info44 rfl (by omega) v4 _ _ (by simp [Act.eval, Act.put]) (by with_reducible exact o4.alloc _) (some ⟨w4.heap.size, 0, none⟩) 1 1 x.cells (by simp [Act.eval, Act.put]) HX5.out (rd_new #[.int .i64 x.a, .int .i64 x.b, .int .i64 x.c, .int .i64 x.d, .int .i64 x.e] 44 rfl) (oneCell_x x) (by unfold maxLen; omega) (by omega) (by first | exact HS0.out | exact B4.size | exact (B4.alloc B4.size _).size | exact B5.size | (simp <;> omega)) ?_; intro v5 w5 o5 g5w _; have B5 : Below w3.heap.size w3 w5 := (B4.alloc B4.size _).grown g5w (B4.alloc B4.size _).size (fun j hj => (o4.lt j hj).1))
  | (refine step_app rfl (.tmp 37) (.tmp 39) 24 rfl w3.heap.size 44 _ 5 40 Tryd.underlying24 info44 rfl (by omega) v4 _ _ (by simp [Act.eval, Act.put]) (by with_reducible exact o4) (some ⟨(w3.heap.size + 1), 0, none⟩) 1 1 x.cells (by simp [Act.eval, Act.put]) HX5.out (RX4) (oneCell_x x) (by unfold maxLen; omega) (by omega) (by first | exact HS0.out | exact B4.size | exact (B4.alloc B4.size _).size | exact B5.size | (simp <;> omega)) ?_; intro v5 w5 o5 g5w _; have B5 : Below w3.heap.size w3 w5 := B4.grown g5w B4.size (fun j hj => (o4.lt j hj).1))
  | (refine step_app rfl (.tmp 37) (.tmp 39) 24 rfl w3.heap.size 44 _ 5 40 Tryd.underlying24 info44 rfl (by omega) v4 _ _ (by simp [Act.eval, Act.put]) (by with_reducible exact o4) (some ⟨w3.heap.size, 0, none⟩) 1 1 x.cells (by simp [Act.eval, Act.put]) HX5.out (RX4) (oneCell_x x) (by unfold maxLen; omega) (by omega) (by first | exact HS0.out | exact B4.size | exact (B4.alloc B4.size _).size | exact B5.size | (simp <;> omega)) ?_; intro v5 w5 o5 g5w _; have B5 : Below w3.heap.size w3 w5 := B4.grown g5w B4.size (fun j hj => (o4.lt j hj).1))
  | (refine step_app rfl (.tmp 40) (.tmp 43) 24 rfl w3.heap.size 44 _ 5 40 Tryd.underlying24 info44 rfl (by omega) v5 _ _ (by simp [Act.eval, Act.put]) (by with_reducible exact o5) (some ⟨g, o + k * 5, none⟩) (n - k) (c - k) (cells5 (xs.drop k)) (by simp [Act.eval, Act.put]) HD5.out (rd_dropT (HR3.out.below B5) k) (oneCell_cells5 _) (by unfold maxLen; omega) (by omega) (by first | exact HS0.out | exact B4.size | exact (B4.alloc B4.size _).size | exact B5.size | (simp <;> omega)) ?_; intro v6 w6 o6 g6w _; have B6 : Below w3.heap.size w3 w6 := B5.grown g6w B5.size (fun j hj => (o5.lt j hj).1)))
            all_goals go_goals
            all_goals (
              have EC : [] ++ cells5 (xs.take k) ++ x.cells ++ cells5 (xs.drop k) = cells5 (sgL xs x) := by rw [sgL, HPX.out, cells5_append, cells5_cons, List.nil_append, List.append_assoc]
              have EN : 0 + k + 1 + (n - k) = n + 1 := by omega
              rw [EC, EN] at o6
              clear EC EN
              have hb6 : Below w.heap.size w w6 := HB3.out.trans (B6.mono hs3)
              have o6' := own_mono o6 hs3
              obtain ⟨A', c', rfl⟩ := own_form o6'
              have R6 := Lib.hid (Rd.of_own o6')
              have O6 := Lib.hid o6'
              clear o6 o6' o5 o4 g4w g5w g6w B4 B5 B6 g0 g1 g2 g3 g4 C0 C1 C4 OA OB OC BBA BBB BBC RAA RAB RAC
              go_wp2_with fail
              refine (C5.out _ _ _ R6.out).mono ?_
              rintro e w7 ⟨rfl, b7⟩
              have HB7 := hb6.trans (b7.mono hb6.size)
              have O7 := own_below O6.out b7
              have hl := hlen.out
              rw [HN.out] at hl
              cases z with
              | true =>
                go_wp2
                go_ret2
                refine ⟨.slice A' (n + 1) c', rfl, ?_, HB7⟩
                simp only [sgW, if_true, hl]
                exact O7
              | false =>
                go_wp2
                go_ret2
                exact ⟨_, rfl, own_empty _ _ _ _ HB7.size, HB7.alloc HB7.size _⟩)
        · have hd0 : decide (k < n) = false := by simp; omega
          have HPX := Lib.hid (posV_eq (x := x) (xs := xs) (k := k) (by rw [HN.out]; omega) H1.out (fun u hu => by have := (List.getElem?_eq_some_iff.1 hu).1; have := HN.out; omega))
          obtain rfl : n = k := by omega
          rcases Nat.eq_zero_or_pos n with rfl | hpos
          · rcases A with _ | ⟨g, o, p⟩
            · go_wp2_with fail
              refine wp_region_lat wr.heap.size (by kernel_rfl) (by kernel_rfl) ?_
              have LC := fun (u : Lat wr.heap.size wr) => u.cell
              repeat (go_big_quiet_step ((first | (go_at_call 55; (with_reducible exact lat_call _ (Nat.le_refl _) (C4.out _ _ HVY.out))) | (go_at_call 55; (with_reducible exact lat_call _ (Nat.le_refl _) (C4.out _ _ HB.out))))))
              refine wpQuiet_nil ?_
              intro w3 b3
              clear LC
              have HB3 := Lib.hid (HB2.out.trans ((hbr.trans (b3.mono hsr)).mono HB2.out.size))
              obtain ⟨bc3, bf3⟩ := bcell b3
              have g0 : w3.cell? ⟨w.heap.size, 0, none⟩ = some (.int .i64 x.a) := (bc3 w.heap.size 0 hslr).trans f0
              have g1 : w3.cell? ⟨w.heap.size, 1, none⟩ = some (.int .i64 x.b) := (bc3 w.heap.size 1 hslr).trans f1
              have g2 : w3.cell? ⟨w.heap.size, 2, none⟩ = some (.int .i64 x.c) := (bc3 w.heap.size 2 hslr).trans f2
              have g3 : w3.cell? ⟨w.heap.size, 3, none⟩ = some (.int .i64 x.d) := (bc3 w.heap.size 3 hslr).trans f3
              have g4 : w3.cell? ⟨w.heap.size, 4, none⟩ = some (.int .i64 x.e) := (bc3 w.heap.size 4 hslr).trans f4
              have hsl3 : w.heap.size < w3.heap.size := by have := b3.size; omega
              have HR3 := Lib.hid (HA.out.below HB3.out)
              have hs3 : w.heap.size ≤ w3.heap.size := by omega
              clear f0 f1 f2 f3 f4 bc3 bf3 HRr b3 hbr
              go_wp2_with fail
              have HK5 := Lib.hid (show (cells5 (xs.take 0)).length = 0 * 5 by have h1 := HN.out; have h2 := length_cells5 (xs.take 0); rw [List.length_take] at h2; omega)
              have HD5 := Lib.hid (show (cells5 (xs.drop 0)).length = 0 * 5 by have h1 := HN.out; have h2 := length_cells5 (xs.drop 0); rw [List.length_drop] at h2; omega)
              have HX5 := Lib.hid (show x.cells.length = 1 * 5 from rfl)
              have HS0 := Lib.hid (Nat.le_refl w3.heap.size)
              have OA : Hid (((w3.alloc (.cells #[] 44)).drew).ownsRow w3.heap.size 44 5 (.slice (some ⟨w3.heap.size, 0, none⟩) 0 0) 0 []) := Lib.hid (own_empty w3 _ _ _ (Nat.le_refl _))
              have BBA : Hid (Below w3.heap.size w3 ((w3.alloc (.cells #[] 44)).drew)) := Lib.hid ((Below.refl _ _).alloc (Nat.le_refl _) _).drew
              have RAA : Hid (Rd ((w3.alloc (.cells #[] 44)).drew) none (cells5 (xs.take 0))) := Lib.hid (by have := HN.out; rw [List.length_eq_zero_iff.1 this]; exact .inl rfl)
              have OB : Hid ((((w3.alloc (.cells #[] 44)).alloc (.cells #[.int .i64 x.a, .int .i64 x.b, .int .i64 x.c, .int .i64 x.d, .int .i64 x.e] 44)).drew).ownsRow w3.heap.size 44 5 (.slice (some ⟨w3.heap.size, 0, none⟩) 0 0) 0 []) := Lib.hid ((own_empty w3 _ _ _ (Nat.le_refl _)).alloc _)
              have BBB : Hid (Below w3.heap.size w3 (((w3.alloc (.cells #[] 44)).alloc (.cells #[.int .i64 x.a, .int .i64 x.b, .int .i64 x.c, .int .i64 x.d, .int .i64 x.e] 44)).drew)) := Lib.hid ((((Below.refl _ _).alloc (Nat.le_refl _) _).alloc (by simp) _).drew)
              have RXB : Hid (Rd (((w3.alloc (.cells #[] 44)).alloc (.cells #[.int .i64 x.a, .int .i64 x.b, .int .i64 x.c, .int .i64 x.d, .int .i64 x.e] 44)).drew) (some ⟨w3.heap.size + 1, 0, none⟩) x.cells) := Lib.hid (rd_new #[.int .i64 x.a, .int .i64 x.b, .int .i64 x.c, .int .i64 x.d, .int .i64 x.e] 44 (by simp))
              have RAB : Hid (Rd (((w3.alloc (.cells #[] 44)).alloc (.cells #[.int .i64 x.a, .int .i64 x.b, .int .i64 x.c, .int .i64 x.d, .int .i64 x.e] 44)).drew) none (cells5 (xs.take 0))) := Lib.hid (by have := HN.out; rw [List.length_eq_zero_iff.1 this]; exact .inl rfl)
              have OC : Hid ((((w3.alloc (.cells #[.int .i64 x.a, .int .i64 x.b, .int .i64 x.c, .int .i64 x.d, .int .i64 x.e] 44)).alloc (.cells #[] 44)).drew).ownsRow w3.heap.size 44 5 (.slice (some ⟨(w3.heap.size + 1), 0, none⟩) 0 0) 0 []) := Lib.hid (own_empty' (by simp) (by simp))
              have BBC : Hid (Below w3.heap.size w3 (((w3.alloc (.cells #[.int .i64 x.a, .int .i64 x.b, .int .i64 x.c, .int .i64 x.d, .int .i64 x.e] 44)).alloc (.cells #[] 44)).drew)) := Lib.hid ((((Below.refl _ _).alloc (Nat.le_refl _) _).alloc (by simp) _).drew)
              have RXC : Hid (Rd (((w3.alloc (.cells #[.int .i64 x.a, .int .i64 x.b, .int .i64 x.c, .int .i64 x.d, .int .i64 x.e] 44)).alloc (.cells #[] 44)).drew) (some ⟨w3.heap.size, 0, none⟩) x.cells) := Lib.hid ((rd_new #[.int .i64 x.a, .int .i64 x.b, .int .i64 x.c, .int .i64 x.d, .int .i64 x.e] 44 rfl).alloc _)
              have RAC : Hid (Rd (((w3.alloc (.cells #[.int .i64 x.a, .int .i64 x.b, .int .i64 x.c, .int .i64 x.d, .int .i64 x.e] 44)).alloc (.cells #[] 44)).drew) none (cells5 (xs.take 0))) := Lib.hid (by have := HN.out; rw [List.length_eq_zero_iff.1 this]; exact .inl rfl)
              go_region_held3 (fun w' => w'.cell? ⟨w.heap.size, 0, none⟩ = some (.int .i64 x.a) ∧ w'.cell? ⟨w.heap.size, 1, none⟩ = some (.int .i64 x.b) ∧ w'.cell? ⟨w.heap.size, 2, none⟩ = some (.int .i64 x.c) ∧ w'.cell? ⟨w.heap.size, 3, none⟩ = some (.int .i64 x.d) ∧ w'.cell? ⟨w.heap.size, 4, none⟩ = some (.int .i64 x.e)) (first | go_keep | exact ⟨(B6.cell (p := ⟨w.heap.size, 0, none⟩) hsl3).trans g0, (B6.cell (p := ⟨w.heap.size, 1, none⟩) hsl3).trans g1, (B6.cell (p := ⟨w.heap.size, 2, none⟩) hsl3).trans g2, (B6.cell (p := ⟨w.heap.size, 3, none⟩) hsl3).trans g3, (B6.cell (p := ⟨w.heap.size, 4, none⟩) hsl3).trans g4⟩ | exact ⟨(B5.cell (p := ⟨w.heap.size, 0, none⟩) hsl3).trans g0, (B5.cell (p := ⟨w.heap.size, 1, none⟩) hsl3).trans g1, (B5.cell (p := ⟨w.heap.size, 2, none⟩) hsl3).trans g2, (B5.cell (p := ⟨w.heap.size, 3, none⟩) hsl3).trans g3, (B5.cell (p := ⟨w.heap.size, 4, none⟩) hsl3).trans g4⟩ | exact ⟨(B4.cell (p := ⟨w.heap.size, 0, none⟩) hsl3).trans g0, (B4.cell (p := ⟨w.heap.size, 1, none⟩) hsl3).trans g1, (B4.cell (p := ⟨w.heap.size, 2, none⟩) hsl3).trans g2, (B4.cell (p := ⟨w.heap.size, 3, none⟩) hsl3).trans g3, (B4.cell (p := ⟨w.heap.size, 4, none⟩) hsl3).trans g4⟩) (first
  | (refine step_app rfl (.tmp 33) (.tmp 36) 24 rfl w3.heap.size 44 _ 5 40 Tryd.underlying24 info44 rfl (by omega) (.slice (some ⟨w3.heap.size, 0, none⟩) 0 0) 0 [] (by simp [Act.eval, Act.put]) (by with_reducible exact OA.out) none 0 c (cells5 (xs.take 0)) (by simp [Act.eval, Act.put]) HK5.out (RAA.out) (oneCell_cells5 _) (by unfold maxLen; omega) (by omega) (by first | exact HS0.out | exact B4.size | exact (B4.alloc B4.size _).size | exact B5.size | (simp <;> omega)) ?_; intro v4 w4 o4 g4w _; have B4 := BBA.out.grown g4w BBA.out.size (fun j hj => (OA.out.lt j hj).1))
  | (refine step_app rfl (.tmp 33) (.tmp 36) 24 rfl w3.heap.size 44 _ 5 40 Tryd.underlying24 info44 rfl (by omega) (.slice (some ⟨w3.heap.size, 0, none⟩) 0 0) 0 [] (by simp [Act.eval, Act.put]) (by with_reducible exact OB.out) none 0 c (cells5 (xs.take 0)) (by simp [Act.eval, Act.put]) HK5.out (RAB.out) (oneCell_cells5 _) (by unfold maxLen; omega) (by omega) (by first | exact HS0.out | exact B4.size | exact (B4.alloc B4.size _).size | exact B5.size | (simp <;> omega)) ?_; intro v4 w4 o4 g4w _; have B4 := BBB.out.grown g4w BBB.out.size (fun j hj => (OB.out.lt j hj).1); have RX4 := rd_grown g4w RXB.out (by simp <;> omega) (by simp [Value.ownBlock]))
  | (refine step_app rfl (.tmp 33) (.tmp 36) 24 rfl w3.heap.size 44 _ 5 40 Tryd.underlying24 info44 rfl (by omega) (.slice (some ⟨w3.heap.size + 1, 0, none⟩) 0 0) 0 [] (by simp [Act.eval, Act.put]) (by with_reducible exact OC.out) none 0 c (cells5 (xs.take 0)) (by simp [Act.eval, Act.put]) HK5.out (RAC.out) (oneCell_cells5 _) (by unfold maxLen; omega) (by omega) (by first | exact HS0.out | exact B4.size | exact (B4.alloc B4.size _).size | exact B5.size | (simp <;> omega)) ?_; intro v4 w4 o4 g4w _; have B4 := BBC.out.grown g4w BBC.out.size (fun j hj => (OC.out.lt j hj).1); have RX4 := rd_grown g4w RXC.out (by simp <;> omega) (by simp [Value.ownBlock]))
  | (refine step_app rfl (.tmp 37) (.tmp 39) 24 rfl w3.heap.size 44 _ 5 40 Tryd.underlying24 info44 rfl (by omega) v4 _ _ (by simp [Act.eval, Act.put]) (by with_reducible exact o4.alloc _) (some ⟨w4.heap.size, 0, none⟩) 1 1 x.cells (by simp [Act.eval, Act.put]) HX5.out (rd_new #[.int .i64 x.a, .int .i64 x.b, .int .i64 x.c, .int .i64 x.d, .int .i64 x.e] 44 rfl) (oneCell_x x) (by unfold maxLen; omega) (by omega) (by first | exact HS0.out | exact B4.size | exact (B4.alloc B4.size _).size | exact B5.size | (simp <;> omega)) ?_; intro v5 w5 o5 g5w _; have B5 : Below w3.heap.size w3 w5 := (B4.alloc B4.size _).grown g5w (B4.alloc B4.size _).size (fun j hj => (o4.lt j hj).1))
  | (refine step_app rfl (.tmp 37) (.tmp 39) 24 rfl w3.heap.size 44 _ 5 40 Tryd.underlying24 info44 rfl (by omega) v4 _ _ (by simp [Act.eval, Act.put]) (by with_reducible exact o4) (some ⟨(w3.heap.size + 1), 0, none⟩) 1 1 x.cells (by simp [Act.eval, Act.put]) HX5.out (RX4) (oneCell_x x) (by unfold maxLen; omega) (by omega) (by first | exact HS0.out | exact B4.size | exact (B4.alloc B4.size _).size | exact B5.size | (simp <;> omega)) ?_; intro v5 w5 o5 g5w _; have B5 : Below w3.heap.size w3 w5 := B4.grown g5w B4.size (fun j hj => (o4.lt j hj).1))
  | (refine step_app rfl (.tmp 37) (.tmp 39) 24 rfl w3.heap.size 44 _ 5 40 Tryd.underlying24 info44 rfl (by omega) v4 _ _ (by simp [Act.eval, Act.put]) (by with_reducible exact o4) (some ⟨w3.heap.size, 0, none⟩) 1 1 x.cells (by simp [Act.eval, Act.put]) HX5.out (RX4) (oneCell_x x) (by unfold maxLen; omega) (by omega) (by first | exact HS0.out | exact B4.size | exact (B4.alloc B4.size _).size | exact B5.size | (simp <;> omega)) ?_; intro v5 w5 o5 g5w _; have B5 : Below w3.heap.size w3 w5 := B4.grown g5w B4.size (fun j hj => (o4.lt j hj).1))
  | (refine step_app rfl (.tmp 40) (.tmp 43) 24 rfl w3.heap.size 44 _ 5 40 Tryd.underlying24 info44 rfl (by omega) v5 _ _ (by simp [Act.eval, Act.put]) (by with_reducible exact o5) none 0 c (cells5 (xs.drop 0)) (by simp [Act.eval, Act.put]) HD5.out (by have := HN.out; rw [List.length_eq_zero_iff.1 this]; exact .inl rfl) (oneCell_cells5 _) (by unfold maxLen; omega) (by omega) (by first | exact HS0.out | exact B4.size | exact (B4.alloc B4.size _).size | exact B5.size | (simp <;> omega)) ?_; intro v6 w6 o6 g6w _; have B6 : Below w3.heap.size w3 w6 := B5.grown g6w B5.size (fun j hj => (o5.lt j hj).1)))
              all_goals go_goals
              all_goals (
                have EC : [] ++ cells5 (xs.take 0) ++ x.cells ++ cells5 (xs.drop 0) = cells5 (sgL xs x) := by rw [sgL, HPX.out, cells5_append, cells5_cons, List.nil_append, List.append_assoc]
                have EN : 0 + 0 + 1 + 0 = 0 + 1 := by omega
                rw [EC, EN] at o6
                clear EC EN
                have hb6 : Below w.heap.size w w6 := HB3.out.trans (B6.mono hs3)
                have o6' := own_mono o6 hs3
                obtain ⟨A', c', rfl⟩ := own_form o6'
                have R6 := Lib.hid (Rd.of_own o6')
                have O6 := Lib.hid o6'
                clear o6 o6' o5 o4 g4w g5w g6w B4 B5 B6 g0 g1 g2 g3 g4 C0 C1 C4 OA OB OC BBA BBB BBC RAA RAB RAC
                go_wp2_with fail
                refine (C5.out _ _ _ R6.out).mono ?_
                rintro e w7 ⟨rfl, b7⟩
                have HB7 := hb6.trans (b7.mono hb6.size)
                have O7 := own_below O6.out b7
                have hl := hlen.out
                rw [HN.out] at hl
                cases z with
                | true =>
                  go_wp2
                  go_ret2
                  refine ⟨.slice A' (0 + 1) c', rfl, ?_, HB7⟩
                  simp only [sgW, if_true, hl]
                  exact O7
                | false =>
                  go_wp2
                  go_ret2
                  exact ⟨_, rfl, own_empty _ _ _ _ HB7.size, HB7.alloc HB7.size _⟩)
            · go_wp2_with fail
              refine wp_region_lat wr.heap.size (by kernel_rfl) (by kernel_rfl) ?_
              have LC := fun (u : Lat wr.heap.size wr) => u.cell
              repeat (go_big_quiet_step ((first | (go_at_call 55; (with_reducible exact lat_call _ (Nat.le_refl _) (C4.out _ _ HVY.out))) | (go_at_call 55; (with_reducible exact lat_call _ (Nat.le_refl _) (C4.out _ _ HB.out))))))
              refine wpQuiet_nil ?_
              intro w3 b3
              clear LC
              have HB3 := Lib.hid (HB2.out.trans ((hbr.trans (b3.mono hsr)).mono HB2.out.size))
              obtain ⟨bc3, bf3⟩ := bcell b3
              have g0 : w3.cell? ⟨w.heap.size, 0, none⟩ = some (.int .i64 x.a) := (bc3 w.heap.size 0 hslr).trans f0
              have g1 : w3.cell? ⟨w.heap.size, 1, none⟩ = some (.int .i64 x.b) := (bc3 w.heap.size 1 hslr).trans f1
              have g2 : w3.cell? ⟨w.heap.size, 2, none⟩ = some (.int .i64 x.c) := (bc3 w.heap.size 2 hslr).trans f2
              have g3 : w3.cell? ⟨w.heap.size, 3, none⟩ = some (.int .i64 x.d) := (bc3 w.heap.size 3 hslr).trans f3
              have g4 : w3.cell? ⟨w.heap.size, 4, none⟩ = some (.int .i64 x.e) := (bc3 w.heap.size 4 hslr).trans f4
              have hsl3 : w.heap.size < w3.heap.size := by have := b3.size; omega
              have HR3 := Lib.hid (HA.out.below HB3.out)
              have hs3 : w.heap.size ≤ w3.heap.size := by omega
              clear f0 f1 f2 f3 f4 bc3 bf3 HRr b3 hbr
              go_wp2_with fail
              have HK5 := Lib.hid (show (cells5 (xs.take 0)).length = 0 * 5 by have h1 := HN.out; have h2 := length_cells5 (xs.take 0); rw [List.length_take] at h2; omega)
              have HD5 := Lib.hid (show (cells5 (xs.drop 0)).length = 0 * 5 by have h1 := HN.out; have h2 := length_cells5 (xs.drop 0); rw [List.length_drop] at h2; omega)
              have HX5 := Lib.hid (show x.cells.length = 1 * 5 from rfl)
              have HS0 := Lib.hid (Nat.le_refl w3.heap.size)
              have OA : Hid (((w3.alloc (.cells #[] 44)).drew).ownsRow w3.heap.size 44 5 (.slice (some ⟨w3.heap.size, 0, none⟩) 0 0) 0 []) := Lib.hid (own_empty w3 _ _ _ (Nat.le_refl _))
              have BBA : Hid (Below w3.heap.size w3 ((w3.alloc (.cells #[] 44)).drew)) := Lib.hid ((Below.refl _ _).alloc (Nat.le_refl _) _).drew
              have RAA : Hid (Rd ((w3.alloc (.cells #[] 44)).drew) (some ⟨g, o, p⟩) (cells5 (xs.take 0))) := Lib.hid (by have := HN.out; rw [List.length_eq_zero_iff.1 this]; exact .inl rfl)
              have OB : Hid ((((w3.alloc (.cells #[] 44)).alloc (.cells #[.int .i64 x.a, .int .i64 x.b, .int .i64 x.c, .int .i64 x.d, .int .i64 x.e] 44)).drew).ownsRow w3.heap.size 44 5 (.slice (some ⟨w3.heap.size, 0, none⟩) 0 0) 0 []) := Lib.hid ((own_empty w3 _ _ _ (Nat.le_refl _)).alloc _)
              have BBB : Hid (Below w3.heap.size w3 (((w3.alloc (.cells #[] 44)).alloc (.cells #[.int .i64 x.a, .int .i64 x.b, .int .i64 x.c, .int .i64 x.d, .int .i64 x.e] 44)).drew)) := Lib.hid ((((Below.refl _ _).alloc (Nat.le_refl _) _).alloc (by simp) _).drew)
              have RXB : Hid (Rd (((w3.alloc (.cells #[] 44)).alloc (.cells #[.int .i64 x.a, .int .i64 x.b, .int .i64 x.c, .int .i64 x.d, .int .i64 x.e] 44)).drew) (some ⟨w3.heap.size + 1, 0, none⟩) x.cells) := Lib.hid (rd_new #[.int .i64 x.a, .int .i64 x.b, .int .i64 x.c, .int .i64 x.d, .int .i64 x.e] 44 (by simp))
              have RAB : Hid (Rd (((w3.alloc (.cells #[] 44)).alloc (.cells #[.int .i64 x.a, .int .i64 x.b, .int .i64 x.c, .int .i64 x.d, .int .i64 x.e] 44)).drew) (some ⟨g, o, p⟩) (cells5 (xs.take 0))) := Lib.hid (by have := HN.out; rw [List.length_eq_zero_iff.1 this]; exact .inl rfl)
              have OC : Hid ((((w3.alloc (.cells #[.int .i64 x.a, .int .i64 x.b, .int .i64 x.c, .int .i64 x.d, .int .i64 x.e] 44)).alloc (.cells #[] 44)).drew).ownsRow w3.heap.size 44 5 (.slice (some ⟨(w3.heap.size + 1), 0, none⟩) 0 0) 0 []) := Lib.hid (own_empty' (by simp) (by simp))
              have BBC : Hid (Below w3.heap.size w3 (((w3.alloc (.cells #[.int .i64 x.a, .int .i64 x.b, .int .i64 x.c, .int .i64 x.d, .int .i64 x.e] 44)).alloc (.cells #[] 44)).drew)) := Lib.hid ((((Below.refl _ _).alloc (Nat.le_refl _) _).alloc (by simp) _).drew)
              have RXC : Hid (Rd (((w3.alloc (.cells #[.int .i64 x.a, .int .i64 x.b, .int .i64 x.c, .int .i64 x.d, .int .i64 x.e] 44)).alloc (.cells #[] 44)).drew) (some ⟨w3.heap.size, 0, none⟩) x.cells) := Lib.hid ((rd_new #[.int .i64 x.a, .int .i64 x.b, .int .i64 x.c, .int .i64 x.d, .int .i64 x.e] 44 rfl).alloc _)
              have RAC : Hid (Rd (((w3.alloc (.cells #[.int .i64 x.a, .int .i64 x.b, .int .i64 x.c, .int .i64 x.d, .int .i64 x.e] 44)).alloc (.cells #[] 44)).drew) (some ⟨g, o, p⟩) (cells5 (xs.take 0))) := Lib.hid (by have := HN.out; rw [List.length_eq_zero_iff.1 this]; exact .inl rfl)
              go_region_held3 (fun w' => w'.cell? ⟨w.heap.size, 0, none⟩ = some (.int .i64 x.a) ∧ w'.cell? ⟨w.heap.size, 1, none⟩ = some (.int .i64 x.b) ∧ w'.cell? ⟨w.heap.size, 2, none⟩ = some (.int .i64 x.c) ∧ w'.cell? ⟨w.heap.size, 3, none⟩ = some (.int .i64 x.d) ∧ w'.cell? ⟨w.heap.size, 4, none⟩ = some (.int .i64 x.e)) (first | go_keep | exact ⟨(B6.cell (p := ⟨w.heap.size, 0, none⟩) hsl3).trans g0, (B6.cell (p := ⟨w.heap.size, 1, none⟩) hsl3).trans g1, (B6.cell (p := ⟨w.heap.size, 2, none⟩) hsl3).trans g2, (B6.cell (p := ⟨w.heap.size, 3, none⟩) hsl3).trans g3, (B6.cell (p := ⟨w.heap.size, 4, none⟩) hsl3).trans g4⟩ | exact ⟨(B5.cell (p := ⟨w.heap.size, 0, none⟩) hsl3).trans g0, (B5.cell (p := ⟨w.heap.size, 1, none⟩) hsl3).trans g1, (B5.cell (p := ⟨w.heap.size, 2, none⟩) hsl3).trans g2, (B5.cell (p := ⟨w.heap.size, 3, none⟩) hsl3).trans g3, (B5.cell (p := ⟨w.heap.size, 4, none⟩) hsl3).trans g4⟩ | exact ⟨(B4.cell (p := ⟨w.heap.size, 0, none⟩) hsl3).trans g0, (B4.cell (p := ⟨w.heap.size, 1, none⟩) hsl3).trans g1, (B4.cell (p := ⟨w.heap.size, 2, none⟩) hsl3).trans g2, (B4.cell (p := ⟨w.heap.size, 3, none⟩) hsl3).trans g3, (B4.cell (p := ⟨w.heap.size, 4, none⟩) hsl3).trans g4⟩) (first
  | (refine step_app rfl (.tmp 33) (.tmp 36) 24 rfl w3.heap.size 44 _ 5 40 Tryd.underlying24 info44 rfl (by omega) (.slice (some ⟨w3.heap.size, 0, none⟩) 0 0) 0 [] (by simp [Act.eval, Act.put]) (by with_reducible exact OA.out) (some ⟨g, o, p⟩) 0 c (cells5 (xs.take 0)) (by simp [Act.eval, Act.put]) HK5.out (RAA.out) (oneCell_cells5 _) (by unfold maxLen; omega) (by omega) (by first | exact HS0.out | exact B4.size | exact (B4.alloc B4.size _).size | exact B5.size | (simp <;> omega)) ?_; intro v4 w4 o4 g4w _; have B4 := BBA.out.grown g4w BBA.out.size (fun j hj => (OA.out.lt j hj).1))
  | (refine step_app rfl (.tmp 33) (.tmp 36) 24 rfl w3.heap.size 44 _ 5 40 Tryd.underlying24 info44 rfl (by omega) (.slice (some ⟨w3.heap.size, 0, none⟩) 0 0) 0 [] (by simp [Act.eval, Act.put]) (by with_reducible exact OB.out) (some ⟨g, o, p⟩) 0 c (cells5 (xs.take 0)) (by simp [Act.eval, Act.put]) HK5.out (RAB.out) (oneCell_cells5 _) (by unfold maxLen; omega) (by omega) (by first | exact HS0.out | exact B4.size | exact (B4.alloc B4.size _).size | exact B5.size | (simp <;> omega)) ?_; intro v4 w4 o4 g4w _; have B4 := BBB.out.grown g4w BBB.out.size (fun j hj => (OB.out.lt j hj).1); have RX4 := rd_grown g4w RXB.out (by simp <;> omega) (by simp [Value.ownBlock]))
  | (refine step_app rfl (.tmp 33) (.tmp 36) 24 rfl w3.heap.size 44 _ 5 40 Tryd.underlying24 info44 rfl (by omega) (.slice (some ⟨w3.heap.size + 1, 0, none⟩) 0 0) 0 [] (by simp [Act.eval, Act.put]) (by with_reducible exact OC.out) (some ⟨g, o, p⟩) 0 c (cells5 (xs.take 0)) (by simp [Act.eval, Act.put]) HK5.out (RAC.out) (oneCell_cells5 _) (by unfold maxLen; omega) (by omega) (by first | exact HS0.out | exact B4.size | exact (B4.alloc B4.size _).size | exact B5.size | (simp <;> omega)) ?_; intro v4 w4 o4 g4w _; have B4 := BBC.out.grown g4w BBC.out.size (fun j hj => (OC.out.lt j hj).1); have RX4 := rd_grown g4w RXC.out (by simp <;> omega) (by simp [Value.ownBlock]))
  | (refine step_app rfl (.tmp 37) (.tmp 39) 24 rfl w3.heap.size 44 _ 5 40 Tryd.underlying24 info44 rfl (by omega) v4 _ _ (by simp [Act.eval, Act.put]) (by with_reducible exact o4.alloc _) (some ⟨w4.heap.size, 0, none⟩) 1 1 x.cells (by simp [Act.eval, Act.put]) HX5.out (rd_new #[.int .i64 x.a, .int .i64 x.b, .int .i64 x.c, .int .i64 x.d, .int .i64 x.e] 44 rfl) (oneCell_x x) (by unfold maxLen; omega) (by omega) (by first | exact HS0.out | exact B4.size | exact (B4.alloc B4.size _).size | exact B5.size | (simp <;> omega)) ?_; intro v5 w5 o5 g5w _; have B5 : Below w3.heap.size w3 w5 := (B4.alloc B4.size _).grown g5w (B4.alloc B4.size _).size (fun j hj => (o4.lt j hj).1))
  | (refine step_app rfl (.tmp 37) (.tmp 39) 24 rfl w3.heap.size 44 _ 5 40 Tryd.underlying24 info44 rfl (by omega) v4 _ _ (by simp [Act.eval, Act.put]) (by with_reducible exact o4) (some ⟨(w3.heap.size + 1), 0, none⟩) 1 1 x.cells (by simp [Act.eval, Act.put]) HX5.out (RX4) (oneCell_x x) (by unfold maxLen; omega) (by omega) (by first | exact HS0.out | exact B4.size | exact (B4.alloc B4.size _).size | exact B5.size | (simp <;> omega)) ?_; intro v5 w5 o5 g5w _; have B5 : Below w3.heap.size w3 w5 := B4.grown g5w B4.size (fun j hj => (o4.lt j hj).1))
  | (refine step_app rfl (.tmp 37) (.tmp 39) 24 rfl w3.heap.size 44 _ 5 40 Tryd.underlying24 info44 rfl (by omega) v4 _ _ (by simp [Act.eval, Act.put]) (by with_reducible exact o4) (some ⟨w3.heap.size, 0, none⟩) 1 1 x.cells (by simp [Act.eval, Act.put]) HX5.out (RX4) (oneCell_x x) (by unfold maxLen; omega) (by omega) (by first | exact HS0.out | exact B4.size | exact (B4.alloc B4.size _).size | exact B5.size | (simp <;> omega)) ?_; intro v5 w5 o5 g5w _; have B5 : Below w3.heap.size w3 w5 := B4.grown g5w B4.size (fun j hj => (o4.lt j hj).1))
  | (refine step_app rfl (.tmp 40) (.tmp 43) 24 rfl w3.heap.size 44 _ 5 40 Tryd.underlying24 info44 rfl (by omega) v5 _ _ (by simp [Act.eval, Act.put]) (by with_reducible exact o5) (some ⟨g, o, p⟩) 0 c (cells5 (xs.drop 0)) (by simp [Act.eval, Act.put]) HD5.out (by have := HN.out; rw [List.length_eq_zero_iff.1 this]; exact .inl rfl) (oneCell_cells5 _) (by unfold maxLen; omega) (by omega) (by first | exact HS0.out | exact B4.size | exact (B4.alloc B4.size _).size | exact B5.size | (simp <;> omega)) ?_; intro v6 w6 o6 g6w _; have B6 : Below w3.heap.size w3 w6 := B5.grown g6w B5.size (fun j hj => (o5.lt j hj).1)))
              all_goals go_goals
              all_goals (
                have EC : [] ++ cells5 (xs.take 0) ++ x.cells ++ cells5 (xs.drop 0) = cells5 (sgL xs x) := by rw [sgL, HPX.out, cells5_append, cells5_cons, List.nil_append, List.append_assoc]
                have EN : 0 + 0 + 1 + 0 = 0 + 1 := by omega
                rw [EC, EN] at o6
                clear EC EN
                have hb6 : Below w.heap.size w w6 := HB3.out.trans (B6.mono hs3)
                have o6' := own_mono o6 hs3
                obtain ⟨A', c', rfl⟩ := own_form o6'
                have R6 := Lib.hid (Rd.of_own o6')
                have O6 := Lib.hid o6'
                clear o6 o6' o5 o4 g4w g5w g6w B4 B5 B6 g0 g1 g2 g3 g4 C0 C1 C4 OA OB OC BBA BBB BBC RAA RAB RAC
                go_wp2_with fail
                refine (C5.out _ _ _ R6.out).mono ?_
                rintro e w7 ⟨rfl, b7⟩
                have HB7 := hb6.trans (b7.mono hb6.size)
                have O7 := own_below O6.out b7
                have hl := hlen.out
                rw [HN.out] at hl
                cases z with
                | true =>
                  go_wp2
                  go_ret2
                  refine ⟨.slice A' (0 + 1) c', rfl, ?_, HB7⟩
                  simp only [sgW, if_true, hl]
                  exact O7
                | false =>
                  go_wp2
                  go_ret2
                  exact ⟨_, rfl, own_empty _ _ _ _ HB7.size, HB7.alloc HB7.size _⟩)
          · obtain ⟨y, hy⟩ : ∃ y, xs[n - 1]? = some y := ⟨xs[n - 1]'(by have := HN.out; omega), List.getElem?_eq_getElem _⟩
            obtain ⟨g, o, hAe, hg, -, -, -, -, -⟩ := HRr.out.at5 hy
            subst hAe
            clear hy
            by_cases hcn : c = n
            · subst hcn
              go_wp2_with fail
              refine wp_region_lat wr.heap.size (by kernel_rfl) (by kernel_rfl) ?_
              have LC := fun (u : Lat wr.heap.size wr) => u.cell
              repeat (go_big_quiet_step ((first | (go_at_call 55; (with_reducible exact lat_call _ (Nat.le_refl _) (C4.out _ _ HVY.out))) | (go_at_call 55; (with_reducible exact lat_call _ (Nat.le_refl _) (C4.out _ _ HB.out))))))
              refine wpQuiet_nil ?_
              intro w3 b3
              clear LC
              have HB3 := Lib.hid (HB2.out.trans ((hbr.trans (b3.mono hsr)).mono HB2.out.size))
              obtain ⟨bc3, bf3⟩ := bcell b3
              have g0 : w3.cell? ⟨w.heap.size, 0, none⟩ = some (.int .i64 x.a) := (bc3 w.heap.size 0 hslr).trans f0
              have g1 : w3.cell? ⟨w.heap.size, 1, none⟩ = some (.int .i64 x.b) := (bc3 w.heap.size 1 hslr).trans f1
              have g2 : w3.cell? ⟨w.heap.size, 2, none⟩ = some (.int .i64 x.c) := (bc3 w.heap.size 2 hslr).trans f2
              have g3 : w3.cell? ⟨w.heap.size, 3, none⟩ = some (.int .i64 x.d) := (bc3 w.heap.size 3 hslr).trans f3
              have g4 : w3.cell? ⟨w.heap.size, 4, none⟩ = some (.int .i64 x.e) := (bc3 w.heap.size 4 hslr).trans f4
              have hsl3 : w.heap.size < w3.heap.size := by have := b3.size; omega
              have HR3 := Lib.hid (HA.out.below HB3.out)
              have hs3 : w.heap.size ≤ w3.heap.size := by omega
              clear f0 f1 f2 f3 f4 bc3 bf3 HRr b3 hbr
              go_wp2_with fail
              have HK5 := Lib.hid (show (cells5 (xs.take c)).length = c * 5 by have h1 := HN.out; have h2 := length_cells5 (xs.take c); rw [List.length_take] at h2; omega)
              have HD5 := Lib.hid (show (cells5 (xs.drop c)).length = 0 * 5 by have h1 := HN.out; have h2 := length_cells5 (xs.drop c); rw [List.length_drop] at h2; omega)
              have HX5 := Lib.hid (show x.cells.length = 1 * 5 from rfl)
              have HS0 := Lib.hid (Nat.le_refl w3.heap.size)
              have OA : Hid (((w3.alloc (.cells #[] 44)).drew).ownsRow w3.heap.size 44 5 (.slice (some ⟨w3.heap.size, 0, none⟩) 0 0) 0 []) := Lib.hid (own_empty w3 _ _ _ (Nat.le_refl _))
              have BBA : Hid (Below w3.heap.size w3 ((w3.alloc (.cells #[] 44)).drew)) := Lib.hid ((Below.refl _ _).alloc (Nat.le_refl _) _).drew
              have RAA : Hid (Rd ((w3.alloc (.cells #[] 44)).drew) (some ⟨g, o, none⟩) (cells5 (xs.take c))) := Lib.hid (rd_takeT (HR3.out.below BBA.out) c)
              have OB : Hid ((((w3.alloc (.cells #[] 44)).alloc (.cells #[.int .i64 x.a, .int .i64 x.b, .int .i64 x.c, .int .i64 x.d, .int .i64 x.e] 44)).drew).ownsRow w3.heap.size 44 5 (.slice (some ⟨w3.heap.size, 0, none⟩) 0 0) 0 []) := Lib.hid ((own_empty w3 _ _ _ (Nat.le_refl _)).alloc _)
              have BBB : Hid (Below w3.heap.size w3 (((w3.alloc (.cells #[] 44)).alloc (.cells #[.int .i64 x.a, .int .i64 x.b, .int .i64 x.c, .int .i64 x.d, .int .i64 x.e] 44)).drew)) := Lib.hid ((((Below.refl _ _).alloc (Nat.le_refl _) _).alloc (by simp) _).drew)
              have RXB : Hid (Rd (((w3.alloc (.cells #[] 44)).alloc (.cells #[.int .i64 x.a, .int .i64 x.b, .int .i64 x.c, .int .i64 x.d, .int .i64 x.e] 44)).drew) (some ⟨w3.heap.size + 1, 0, none⟩) x.cells) := Lib.hid (rd_new #[.int .i64 x.a, .int .i64 x.b, .int .i64 x.c, .int .i64 x.d, .int .i64 x.e] 44 (by simp))
              have RAB : Hid (Rd (((w3.alloc (.cells #[] 44)).alloc (.cells #[.int .i64 x.a, .int .i64 x.b, .int .i64 x.c, .int .i64 x.d, .int .i64 x.e] 44)).drew) (some ⟨g, o, none⟩) (cells5 (xs.take c))) := Lib.hid (rd_takeT (HR3.out.below BBB.out) c)
              have OC : Hid ((((w3.alloc (.cells #[.int .i64 x.a, .int .i64 x.b, .int .i64 x.c, .int .i64 x.d, .int .i64 x.e] 44)).alloc (.cells #[] 44)).drew).ownsRow w3.heap.size 44 5 (.slice (some ⟨(w3.heap.size + 1), 0, none⟩) 0 0) 0 []) := Lib.hid (own_empty' (by simp) (by simp))
              have BBC : Hid (Below w3.heap.size w3 (((w3.alloc (.cells #[.int .i64 x.a, .int .i64 x.b, .int .i64 x.c, .int .i64 x.d, .int .i64 x.e] 44)).alloc (.cells #[] 44)).drew)) := Lib.hid ((((Below.refl _ _).alloc (Nat.le_refl _) _).alloc (by simp) _).drew)
              have RXC : Hid (Rd (((w3.alloc (.cells #[.int .i64 x.a, .int .i64 x.b, .int .i64 x.c, .int .i64 x.d, .int .i64 x.e] 44)).alloc (.cells #[] 44)).drew) (some ⟨w3.heap.size, 0, none⟩) x.cells) := Lib.hid ((rd_new #[.int .i64 x.a, .int .i64 x.b, .int .i64 x.c, .int .i64 x.d, .int .i64 x.e] 44 rfl).alloc _)
              have RAC : Hid (Rd (((w3.alloc (.cells #[.int .i64 x.a, .int .i64 x.b, .int .i64 x.c, .int .i64 x.d, .int .i64 x.e] 44)).alloc (.cells #[] 44)).drew) (some ⟨g, o, none⟩) (cells5 (xs.take c))) := Lib.hid (rd_takeT (HR3.out.below BBC.out) c)
              go_region_held3 (fun w' => w'.cell? ⟨w.heap.size, 0, none⟩ = some (.int .i64 x.a) ∧ w'.cell? ⟨w.heap.size, 1, none⟩ = some (.int .i64 x.b) ∧ w'.cell? ⟨w.heap.size, 2, none⟩ = some (.int .i64 x.c) ∧ w'.cell? ⟨w.heap.size, 3, none⟩ = some (.int .i64 x.d) ∧ w'.cell? ⟨w.heap.size, 4, none⟩ = some (.int .i64 x.e)) (first | go_keep | exact ⟨(B6.cell (p := ⟨w.heap.size, 0, none⟩) hsl3).trans g0, (B6.cell (p := ⟨w.heap.size, 1, none⟩) hsl3).trans g1, (B6.cell (p := ⟨w.heap.size, 2, none⟩) hsl3).trans g2, (B6.cell (p := ⟨w.heap.size, 3, none⟩) hsl3).trans g3, (B6.cell (p := ⟨w.heap.size, 4, none⟩) hsl3).trans g4⟩ | exact ⟨(B5.cell (p := ⟨w.heap.size, 0, none⟩) hsl3).trans g0, (B5.cell (p := ⟨w.heap.size, 1, none⟩) hsl3).trans g1, (B5.cell (p := ⟨w.heap.size, 2, none⟩) hsl3).trans g2, (B5.cell (p := ⟨w.heap.size, 3, none⟩) hsl3).trans g3, (B5.cell (p := ⟨w.heap.size, 4, none⟩) hsl3).trans g4⟩ | exact ⟨(B4.cell (p := ⟨w.heap.size, 0, none⟩) hsl3).trans g0, (B4.cell (p := ⟨w.heap.size, 1, none⟩) hsl3).trans g1, (B4.cell (p := ⟨w.heap.size, 2, none⟩) hsl3).trans g2, (B4.cell (p := ⟨w.heap.size, 3, none⟩) hsl3).trans g3, (B4.cell (p := ⟨w.heap.size, 4, none⟩) hsl3).trans g4⟩) (first
  | (refine step_app rfl (.tmp 33) (.tmp 36) 24 rfl w3.heap.size 44 _ 5 40 Tryd.underlying24 info44 rfl (by omega) (.slice (some ⟨w3.heap.size, 0, none⟩) 0 0) 0 [] (by simp [Act.eval, Act.put]) (by with_reducible exact OA.out) (some ⟨g, o, none⟩) c c (cells5 (xs.take c)) (by simp [Act.eval, Act.put]) HK5.out (RAA.out) (oneCell_cells5 _) (by unfold maxLen; omega) (by omega) (by first | exact HS0.out | exact B4.size | exact (B4.alloc B4.size _).size | exact B5.size | (simp <;> omega)) ?_; intro v4 w4 o4 g4w _; have B4 := BBA.out.grown g4w BBA.out.size (fun j hj => (OA.out.lt j hj).1))
  | (refine step_app rfl (.tmp 33) (.tmp 36) 24 rfl w3.heap.size 44 _ 5 40 Tryd.underlying24 info44 rfl (by omega) (.slice (some ⟨w3.heap.size, 0, none⟩) 0 0) 0 [] (by simp [Act.eval, Act.put]) (by with_reducible exact OB.out) (some ⟨g, o, none⟩) c c (cells5 (xs.take c)) (by simp [Act.eval, Act.put]) HK5.out (RAB.out) (oneCell_cells5 _) (by unfold maxLen; omega) (by omega) (by first | exact HS0.out | exact B4.size | exact (B4.alloc B4.size _).size | exact B5.size | (simp <;> omega)) ?_; intro v4 w4 o4 g4w _; have B4 := BBB.out.grown g4w BBB.out.size (fun j hj => (OB.out.lt j hj).1); have RX4 := rd_grown g4w RXB.out (by simp <;> omega) (by simp [Value.ownBlock]))
  | (refine step_app rfl (.tmp 33) (.tmp 36) 24 rfl w3.heap.size 44 _ 5 40 Tryd.underlying24 info44 rfl (by omega) (.slice (some ⟨w3.heap.size + 1, 0, none⟩) 0 0) 0 [] (by simp [Act.eval, Act.put]) (by with_reducible exact OC.out) (some ⟨g, o, none⟩) c c (cells5 (xs.take c)) (by simp [Act.eval, Act.put]) HK5.out (RAC.out) (oneCell_cells5 _) (by unfold maxLen; omega) (by omega) (by first | exact HS0.out | exact B4.size | exact (B4.alloc B4.size _).size | exact B5.size | (simp <;> omega)) ?_; intro v4 w4 o4 g4w _; have B4 := BBC.out.grown g4w BBC.out.size (fun j hj => (OC.out.lt j hj).1); have RX4 := rd_grown g4w RXC.out (by simp <;> omega) (by simp [Value.ownBlock]))
  | (refine step_app rfl (.tmp 37) (.tmp 39) 24 rfl w3.heap.size 44 _ 5 40 Tryd.underlying24 info44 rfl (by omega) v4 _ _ (by simp [Act.eval, Act.put]) (by with_reducible exact o4.alloc _) (some ⟨w4.heap.size, 0, none⟩) 1 1 x.cells (by simp [Act.eval, Act.put]) HX5.out (rd_new #[.int .i64 x.a, .int .i64 x.b, .int .i64 x.c, .int .i64 x.d, .int .i64 x.e] 44 rfl) (oneCell_x x) (by unfold maxLen; omega) (by omega) (by first | exact HS0.out | exact B4.size | exact (B4.alloc B4.size _).size | exact B5.size | (simp <;> omega)) ?_; intro v5 w5 o5 g5w _; have B5 : Below w3.heap.size w3 w5 := (B4.alloc B4.size _).grown g5w (B4.alloc B4.size _).size (fun j hj => (o4.lt j hj).1))
  | (refine step_app rfl (.tmp 37) (.tmp 39) 24 rfl w3.heap.size 44 _ 5 40 Tryd.underlying24 info44 rfl (by omega) v4 _ _ (by simp [Act.eval, Act.put]) (by with_reducible exact o4) (some ⟨(w3.heap.size + 1), 0, none⟩) 1 1 x.cells (by simp [Act.eval, Act.put]) HX5.out (RX4) (oneCell_x x) (by unfold maxLen; omega) (by omega) (by first | exact HS0.out | exact B4.size | exact (B4.alloc B4.size _).size | exact B5.size | (simp <;> omega)) ?_; intro v5 w5 o5 g5w _; have B5 : Below w3.heap.size w3 w5 := B4.grown g5w B4.size (fun j hj => (o4.lt j hj).1))
  | (refine step_app rfl (.tmp 37) (.tmp 39) 24 rfl w3.heap.size 44 _ 5 40 Tryd.underlying24 info44 rfl (by omega) v4 _ _ (by simp [Act.eval, Act.put]) (by with_reducible exact o4) (some ⟨w3.heap.size, 0, none⟩) 1 1 x.cells (by simp [Act.eval, Act.put]) HX5.out (RX4) (oneCell_x x) (by unfold maxLen; omega) (by omega) (by first | exact HS0.out | exact B4.size | exact (B4.alloc B4.size _).size | exact B5.size | (simp <;> omega)) ?_; intro v5 w5 o5 g5w _; have B5 : Below w3.heap.size w3 w5 := B4.grown g5w B4.size (fun j hj => (o4.lt j hj).1))
  | (refine step_app rfl (.tmp 40) (.tmp 43) 24 rfl w3.heap.size 44 _ 5 40 Tryd.underlying24 info44 rfl (by omega) v5 _ _ (by simp [Act.eval, Act.put]) (by with_reducible exact o5) (some ⟨g, o, none⟩) 0 (c - c) (cells5 (xs.drop c)) (by simp [Act.eval, Act.put]) HD5.out (by rw [List.drop_eq_nil_of_le (by have := HN.out; omega)]; exact .inl rfl) (oneCell_cells5 _) (by unfold maxLen; omega) (by omega) (by first | exact HS0.out | exact B4.size | exact (B4.alloc B4.size _).size | exact B5.size | (simp <;> omega)) ?_; intro v6 w6 o6 g6w _; have B6 : Below w3.heap.size w3 w6 := B5.grown g6w B5.size (fun j hj => (o5.lt j hj).1)))
              all_goals go_goals
              all_goals (
                have EC : [] ++ cells5 (xs.take c) ++ x.cells ++ cells5 (xs.drop c) = cells5 (sgL xs x) := by rw [sgL, HPX.out, cells5_append, cells5_cons, List.nil_append, List.append_assoc]
                have EN : 0 + c + 1 + 0 = c + 1 := by omega
                rw [EC, EN] at o6
                clear EC EN
                have hb6 : Below w.heap.size w w6 := HB3.out.trans (B6.mono hs3)
                have o6' := own_mono o6 hs3
                obtain ⟨A', c', rfl⟩ := own_form o6'
                have R6 := Lib.hid (Rd.of_own o6')
                have O6 := Lib.hid o6'
                clear o6 o6' o5 o4 g4w g5w g6w B4 B5 B6 g0 g1 g2 g3 g4 C0 C1 C4 OA OB OC BBA BBB BBC RAA RAB RAC
                go_wp2_with fail
                refine (C5.out _ _ _ R6.out).mono ?_
                rintro e w7 ⟨rfl, b7⟩
                have HB7 := hb6.trans (b7.mono hb6.size)
                have O7 := own_below O6.out b7
                have hl := hlen.out
                rw [HN.out] at hl
                cases z with
                | true =>
                  go_wp2
                  go_ret2
                  refine ⟨.slice A' (c + 1) c', rfl, ?_, HB7⟩
                  simp only [sgW, if_true, hl]
                  exact O7
                | false =>
                  go_wp2
                  go_ret2
                  exact ⟨_, rfl, own_empty _ _ _ _ HB7.size, HB7.alloc HB7.size _⟩)
            · have hck2 : ¬ n = c := fun h => hcn h.symm
              go_wp2_with fail
              refine wp_region_lat wr.heap.size (by kernel_rfl) (by kernel_rfl) ?_
              have LC := fun (u : Lat wr.heap.size wr) => u.cell
              repeat (go_big_quiet_step ((first | (go_at_call 55; (with_reducible exact lat_call _ (Nat.le_refl _) (C4.out _ _ HVY.out))) | (go_at_call 55; (with_reducible exact lat_call _ (Nat.le_refl _) (C4.out _ _ HB.out))))))
              refine wpQuiet_nil ?_
              intro w3 b3
              clear LC
              have HB3 := Lib.hid (HB2.out.trans ((hbr.trans (b3.mono hsr)).mono HB2.out.size))
              obtain ⟨bc3, bf3⟩ := bcell b3
              have g0 : w3.cell? ⟨w.heap.size, 0, none⟩ = some (.int .i64 x.a) := (bc3 w.heap.size 0 hslr).trans f0
              have g1 : w3.cell? ⟨w.heap.size, 1, none⟩ = some (.int .i64 x.b) := (bc3 w.heap.size 1 hslr).trans f1
              have g2 : w3.cell? ⟨w.heap.size, 2, none⟩ = some (.int .i64 x.c) := (bc3 w.heap.size 2 hslr).trans f2
              have g3 : w3.cell? ⟨w.heap.size, 3, none⟩ = some (.int .i64 x.d) := (bc3 w.heap.size 3 hslr).trans f3
              have g4 : w3.cell? ⟨w.heap.size, 4, none⟩ = some (.int .i64 x.e) := (bc3 w.heap.size 4 hslr).trans f4
              have hsl3 : w.heap.size < w3.heap.size := by have := b3.size; omega
              have HR3 := Lib.hid (HA.out.below HB3.out)
              have hs3 : w.heap.size ≤ w3.heap.size := by omega
              clear f0 f1 f2 f3 f4 bc3 bf3 HRr b3 hbr
              go_wp2_with fail
              have hk0 : (0 : Int) ≤ (n : Int) := by omega
              have hk2 : (n : Int) ≤ (c : Int) := by omega
              have hk3 : n ≤ c := by omega
              have HK5 := Lib.hid (show (cells5 (xs.take n)).length = n * 5 by have h1 := HN.out; have h2 := length_cells5 (xs.take n); rw [List.length_take] at h2; omega)
              have HD5 := Lib.hid (show (cells5 (xs.drop n)).length = 0 * 5 by have h1 := HN.out; have h2 := length_cells5 (xs.drop n); rw [List.length_drop] at h2; omega)
              have HX5 := Lib.hid (show x.cells.length = 1 * 5 from rfl)
              have HS0 := Lib.hid (Nat.le_refl w3.heap.size)
              have OA : Hid (((w3.alloc (.cells #[] 44)).drew).ownsRow w3.heap.size 44 5 (.slice (some ⟨w3.heap.size, 0, none⟩) 0 0) 0 []) := Lib.hid (own_empty w3 _ _ _ (Nat.le_refl _))
              have BBA : Hid (Below w3.heap.size w3 ((w3.alloc (.cells #[] 44)).drew)) := Lib.hid ((Below.refl _ _).alloc (Nat.le_refl _) _).drew
              have RAA : Hid (Rd ((w3.alloc (.cells #[] 44)).drew) (some ⟨g, o, none⟩) (cells5 (xs.take n))) := Lib.hid (rd_takeT (HR3.out.below BBA.out) n)
              have OB : Hid ((((w3.alloc (.cells #[] 44)).alloc (.cells #[.int .i64 x.a, .int .i64 x.b, .int .i64 x.c, .int .i64 x.d, .int .i64 x.e] 44)).drew).ownsRow w3.heap.size 44 5 (.slice (some ⟨w3.heap.size, 0, none⟩) 0 0) 0 []) := Lib.hid ((own_empty w3 _ _ _ (Nat.le_refl _)).alloc _)
              have BBB : Hid (Below w3.heap.size w3 (((w3.alloc (.cells #[] 44)).alloc (.cells #[.int .i64 x.a, .int .i64 x.b, .int .i64 x.c, .int .i64 x.d, .int .i64 x.e] 44)).drew)) := Lib.hid ((((Below.refl _ _).alloc (Nat.le_refl _) _).alloc (by simp) _).drew)
              have RXB : Hid (Rd (((w3.alloc (.cells #[] 44)).alloc (.cells #[.int .i64 x.a, .int .i64 x.b, .int .i64 x.c, .int .i64 x.d, .int .i64 x.e] 44)).drew) (some ⟨w3.heap.size + 1, 0, none⟩) x.cells) := Lib.hid (rd_new #[.int .i64 x.a, .int .i64 x.b, .int .i64 x.c, .int .i64 x.d, .int .i64 x.e] 44 (by simp))
              have RAB : Hid (Rd (((w3.alloc (.cells #[] 44)).alloc (.cells #[.int .i64 x.a, .int .i64 x.b, .int .i64 x.c, .int .i64 x.d, .int .i64 x.e] 44)).drew) (some ⟨g, o, none⟩) (cells5 (xs.take n))) := Lib.hid (rd_takeT (HR3.out.below BBB.out) n)
              have OC : Hid ((((w3.alloc (.cells #[.int .i64 x.a, .int .i64 x.b, .int .i64 x.c, .int .i64 x.d, .int .i64 x.e] 44)).alloc (.cells #[] 44)).drew).ownsRow w3.heap.size 44 5 (.slice (some ⟨(w3.heap.size + 1), 0, none⟩) 0 0) 0 []) := Lib.hid (own_empty' (by simp) (by simp))
              have BBC : Hid (Below w3.heap.size w3 (((w3.alloc (.cells #[.int .i64 x.a, .int .i64 x.b, .int .i64 x.c, .int .i64 x.d, .int .i64 x.e] 44)).alloc (.cells #[] 44)).drew)) := Lib.hid ((((Below.refl _ _).alloc (Nat.le_refl _) _).alloc (by simp) _).drew)
              have RXC : Hid (Rd (((w3.alloc (.cells #[.int .i64 x.a, .int .i64 x.b, .int .i64 x.c, .int .i64 x.d, .int .i64 x.e] 44)).alloc (.cells #[] 44)).drew) (some ⟨w3.heap.size, 0, none⟩) x.cells) := Lib.hid ((rd_new #[.int .i64 x.a, .int .i64 x.b, .int .i64 x.c, .int .i64 x.d, .int .i64 x.e] 44 rfl).alloc _)
              have RAC : Hid (Rd (((w3.alloc (.cells #[.int .i64 x.a, .int .i64 x.b, .int .i64 x.c, .int .i64 x.d, .int .i64 x.e] 44)).alloc (.cells #[] 44)).drew) (some ⟨g, o, none⟩) (cells5 (xs.take n))) := Lib.hid (rd_takeT (HR3.out.below BBC.out) n)
              go_region_held3 (fun w' => w'.cell? ⟨w.heap.size, 0, none⟩ = some (.int .i64 x.a) ∧ w'.cell? ⟨w.heap.size, 1, none⟩ = some (.int .i64 x.b) ∧ w'.cell? ⟨w.heap.size, 2, none⟩ = some (.int .i64 x.c) ∧ w'.cell? ⟨w.heap.size, 3, none⟩ = some (.int .i64 x.d) ∧ w'.cell? ⟨w.heap.size, 4, none⟩ = some (.int .i64 x.e)) (first | go_keep | exact ⟨(B6.cell (p := ⟨w.heap.size, 0, none⟩) hsl3).trans g0, (B6.cell (p := ⟨w.heap.size, 1, none⟩) hsl3).trans g1, (B6.cell (p := ⟨w.heap.size, 2, none⟩) hsl3).trans g2, (B6.cell (p := ⟨w.heap.size, 3, none⟩) hsl3).trans g3, (B6.cell (p := ⟨w.heap.size, 4, none⟩) hsl3).trans g4⟩ | exact ⟨(B5.cell (p := ⟨w.heap.size, 0, none⟩) hsl3).trans g0, (B5.cell (p := ⟨w.heap.size, 1, none⟩) hsl3).trans g1, (B5.cell (p := ⟨w.heap.size, 2, none⟩) hsl3).trans g2, (B5.cell (p := ⟨w.heap.size, 3, none⟩) hsl3).trans g3, (B5.cell (p := ⟨w.heap.size, 4, none⟩) hsl3).trans g4⟩ | exact ⟨(B4.cell (p := ⟨w.heap.size, 0, none⟩) hsl3).trans g0, (B4.cell (p := ⟨w.heap.size, 1, none⟩) hsl3).trans g1, (B4.cell (p := ⟨w.heap.size, 2, none⟩) hsl3).trans g2, (B4.cell (p := ⟨w.heap.size, 3, none⟩) hsl3).trans g3, (B4.cell (p := ⟨w.heap.size, 4, none⟩) hsl3).trans g4⟩) (first
  | (refine step_app rfl (.tmp 33) (.tmp 36) 24 rfl w3.heap.size 44 _ 5 40 Tryd.underlying24 info44 rfl (by omega) (.slice (some ⟨w3.heap.size, 0, none⟩) 0 0) 0 [] (by simp [Act.eval, Act.put]) (by with_reducible exact OA.out) (some ⟨g, o, none⟩) n c (cells5 (xs.take n)) (by simp [Act.eval, Act.put]) HK5.out (RAA.out) (oneCell_cells5 _) (by unfold maxLen; omega) (by omega) (by first | exact HS0.out | exact B4.size | exact (B4.alloc B4.size _).size | exact B5.size | (simp <;> omega)) ?_; intro v4 w4 o4 g4w _; have B4 := BBA.out.grown g4w BBA.out.size (fun j hj => (OA.out.lt j hj).1))
  | (refine step_app rfl (.tmp 33) (.tmp 36) 24 rfl w3.heap.size 44 _ 5 40 Tryd.underlying24 info44 rfl (by omega) (.slice (some ⟨w3.heap.size, 0, none⟩) 0 0) 0 [] (by simp [Act.eval, Act.put]) (by with_reducible exact OB.out) (some ⟨g, o, none⟩) n c (cells5 (xs.take n)) (by simp [Act.eval, Act.put]) HK5.out (RAB.out) (oneCell_cells5 _) (by unfold maxLen; omega) (by omega) (by first | exact HS0.out | exact B4.size | exact (B4.alloc B4.size _).size | exact B5.size | (simp <;> omega)) ?_; intro v4 w4 o4 g4w _; have B4 := BBB.out.grown g4w BBB.out.size (fun j hj => (OB.out.lt j hj).1); have RX4 := rd_grown g4w RXB.out (by simp <;> omega) (by simp [Value.ownBlock]))
  | (refine step_app rfl (.tmp 33) (.tmp 36) 24 rfl w3.heap.size 44 _ 5 40 Tryd.underlying24 info44 rfl (by omega) (.slice (some ⟨w3.heap.size + 1, 0, none⟩) 0 0) 0 [] (by simp [Act.eval, Act.put]) (by with_reducible exact OC.out) (some ⟨g, o, none⟩) n c (cells5 (xs.take n)) (by simp [Act.eval, Act.put]) HK5.out (RAC.out) (oneCell_cells5 _) (by unfold maxLen; omega) (by omega) (by first | exact HS0.out | exact B4.size | exact (B4.alloc B4.size _).size | exact B5.size | (simp <;> omega)) ?_; intro v4 w4 o4 g4w _; have B4 := BBC.out.grown g4w BBC.out.size (fun j hj => (OC.out.lt j hj).1); have RX4 := rd_grown g4w RXC.out (by simp <;> omega) (by simp [Value.ownBlock]))
  | (refine step_app rfl (.tmp 37) (.tmp 39) 24 rfl w3.heap.size 44 _ 5 40 Tryd.underlying24 info44 rfl (by omega) v4 _ _ (by simp [Act.eval, Act.put]) (by with_reducible exact o4.alloc _) (some ⟨w4.heap.size, 0, none⟩) 1 1 x.cells (by simp [Act.eval, Act.put]) HX5.out (rd_new #[.int .i64 x.a, .int .i64 x.b, .int .i64 x.c, .int .i64 x.d, .int .i64 x.e] 44 rfl) (oneCell_x x) (by unfold maxLen; omega) (by omega) (by first | exact HS0.out | exact B4.size | exact (B4.alloc B4.size _).size | exact B5.size | (simp <;> omega)) ?_; intro v5 w5 o5 g5w _; have B5 : Below w3.heap.size w3 w5 := (B4.alloc B4.size _).grown g5w (B4.alloc B4.size _).size (fun j hj => (o4.lt j hj).1))
  | (refine step_app rfl (.tmp 37) (.tmp 39) 24 rfl w3.heap.size 44 _ 5 40 Tryd.underlying24 info44 rfl (by omega) v4 _ _ (by simp [Act.eval, Act.put]) (by with_reducible exact o4) (some ⟨(w3.heap.size + 1), 0, none⟩) 1 1 x.cells (by simp [Act.eval, Act.put]) HX5.out (RX4) (oneCell_x x) (by unfold maxLen; omega) (by omega) (by first | exact HS0.out | exact B4.size | exact (B4.alloc B4.size _).size | exact B5.size | (simp <;> omega)) ?_; intro v5 w5 o5 g5w _; have B5 : Below w3.heap.size w3 w5 := B4.grown g5w B4.size (fun j hj => (o4.lt j hj).1))
  | (refine step_app rfl (.tmp 37) (.tmp 39) 24 rfl w3.heap.size 44 _ 5 40 Tryd.underlying24 info44 rfl (by omega) v4 _ _ (by simp [Act.eval, Act.put]) (by with_reducible exact o4) (some ⟨w3.heap.size, 0, none⟩) 1 1 x.cells (by simp [Act.eval, Act.put]) HX5.out (RX4) (oneCell_x x) (by unfold maxLen; omega) (by omega) (by first | exact HS0.out | exact B4.size | exact (B4.alloc B4.size _).size | exact B5.size | (simp <;> omega)) ?_; intro v5 w5 o5 g5w _; have B5 : Below w3.heap.size w3 w5 := B4.grown g5w B4.size (fun j hj => (o4.lt j hj).1))
  | (refine step_app rfl (.tmp 40) (.tmp 43) 24 rfl w3.heap.size 44 _ 5 40 Tryd.underlying24 info44 rfl (by omega) v5 _ _ (by simp [Act.eval, Act.put]) (by with_reducible exact o5) (some ⟨g, o + n * 5, none⟩) 0 (c - n) (cells5 (xs.drop n)) (by simp [Act.eval, Act.put]) HD5.out (by rw [List.drop_eq_nil_of_le (by have := HN.out; omega)]; exact .inl rfl) (oneCell_cells5 _) (by unfold maxLen; omega) (by omega) (by first | exact HS0.out | exact B4.size | exact (B4.alloc B4.size _).size | exact B5.size | (simp <;> omega)) ?_; intro v6 w6 o6 g6w _; have B6 : Below w3.heap.size w3 w6 := B5.grown g6w B5.size (fun j hj => (o5.lt j hj).1)))
              all_goals go_goals
              all_goals (
                have EC : [] ++ cells5 (xs.take n) ++ x.cells ++ cells5 (xs.drop n) = cells5 (sgL xs x) := by rw [sgL, HPX.out, cells5_append, cells5_cons, List.nil_append, List.append_assoc]
                have EN : 0 + n + 1 + 0 = n + 1 := by omega
                rw [EC, EN] at o6
                clear EC EN
                have hb6 : Below w.heap.size w w6 := HB3.out.trans (B6.mono hs3)
                have o6' := own_mono o6 hs3
                obtain ⟨A', c', rfl⟩ := own_form o6'
                have R6 := Lib.hid (Rd.of_own o6')
                have O6 := Lib.hid o6'
                clear o6 o6' o5 o4 g4w g5w g6w B4 B5 B6 g0 g1 g2 g3 g4 C0 C1 C4 OA OB OC BBA BBB BBC RAA RAB RAC
                go_wp2_with fail
                refine (C5.out _ _ _ R6.out).mono ?_
                rintro e w7 ⟨rfl, b7⟩
                have HB7 := hb6.trans (b7.mono hb6.size)
                have O7 := own_below O6.out b7
                have hl := hlen.out
                rw [HN.out] at hl
                cases z with
                | true =>
                  go_wp2
                  go_ret2
                  refine ⟨.slice A' (n + 1) c', rfl, ?_, HB7⟩
                  simp only [sgW, if_true, hl]
                  exact O7
                | false =>
                  go_wp2
                  go_ret2
                  exact ⟨_, rfl, own_empty _ _ _ _ HB7.size, HB7.alloc HB7.size _⟩)
end Go.Proofs.YtnaehlglpaadhaaDoor
