/- Approvals: TakeBack. -/
import Derived.Test.YtogjcnfhfpgbfaaAppD
namespace Go.Proofs.Ytogjcnfhfpgbfaa
set_option linter.unusedVariables false
set_option linter.unusedSimpArgs false
open Go.RowKit Go.Lib

theorem good_ids {xs : List AR} (h : goodA xs = true) {i j : Nat} {x y : AR} (hij : i < j) (hx : xs[i]? = some x) (hy : xs[j]? = some y) : x.id < y.id := by
  have step : ∀ (j : Nat) (a b : AR), xs[j]? = some a → xs[j + 1]? = some b → a.id < b.id := fun j a b ha hb => by
    have hok := (goodA_yes h).1 (j + 1)
    cases hbf : befA a b with
    | true => simp only [befA, Bool.and_eq_true, decide_eq_true_eq] at hbf; exact hbf.1
    | false => rw [okAt_no2 hb (by simpa using ha) (by omega) hbf] at hok; cases hok
  have key : ∀ (d i : Nat) (a b : AR), xs[i]? = some a → xs[i + (d + 1)]? = some b → a.id < b.id := by
    intro d
    induction d with
    | zero => intro i a b ha hb; exact step i a b ha hb
    | succ d ih =>
      intro i a b ha hb
      have hl := (List.getElem?_eq_some_iff.1 hb).1
      obtain ⟨c, hc⟩ : ∃ c, xs[i + (d + 1)]? = some c := ⟨xs[i + (d + 1)]'(by omega), List.getElem?_eq_getElem _⟩
      have h3 := ih i a c ha hc
      have h4 := step (i + (d + 1)) c b hc (by rw [show i + (d + 1) + 1 = i + (d + 1 + 1) by omega]; exact hb)
      omega
  exact key (j - i - 1) i x y hx (by rw [show i + (j - i - 1 + 1) = j by omega]; exact hy)
/-- The last place with an id, among the first k. -/
def lastAt (xs : List AR) (id : Int) : Nat → Int
  | 0 => -1
  | k + 1 => match xs[k]? with
    | some y => if y.id = id then (k : Int) else lastAt xs id k
    | none => lastAt xs id k
theorem lastAt_hit {xs : List AR} {id : Int} {k : Nat} {y : AR} (h : xs[k]? = some y) (he : y.id = id) : lastAt xs id (k + 1) = k := by simp [lastAt, h, he]
theorem lastAt_miss {xs : List AR} {id : Int} {k : Nat} {y : AR} (h : xs[k]? = some y) (he : ¬ y.id = id) : lastAt xs id (k + 1) = lastAt xs id k := by simp [lastAt, h, he]
theorem lastAt_none {xs : List AR} {id : Int} (h : ∀ x ∈ xs, (x.id == id) = false) : ∀ k, lastAt xs id k = -1
  | 0 => rfl
  | k + 1 => by
    cases hx : xs[k]? with
    | none => simp [lastAt, hx, lastAt_none h k]
    | some y => rw [lastAt_miss hx (by have := h y (List.mem_of_getElem? hx); simpa using this), lastAt_none h k]
theorem lastAt_one {xs : List AR} {id : Int} {k : Nat} {y : AR} (hg : goodA xs = true) (h : xs[k]? = some y) (he : y.id = id) : ∀ m, k < m → lastAt xs id m = k
  | 0, hm => by omega
  | m + 1, hm => by
    by_cases e : k = m
    · subst e; exact lastAt_hit h he
    · have ih := lastAt_one hg h he m (by omega)
      cases hx : xs[m]? with
      | none => simp [lastAt, hx, ih]
      | some z =>
        rw [lastAt_miss hx (by have := good_ids hg (show k < m by omega) h hx; omega), ih]
theorem lastAt_bd (xs : List AR) (id : Int) : ∀ k, -1 ≤ lastAt xs id k ∧ lastAt xs id k < k
  | 0 => by simp [lastAt]
  | k + 1 => by
    have := lastAt_bd xs id k
    simp only [lastAt]
    split
    · split <;> omega
    · omega
def tbK (xs : List AR) (id : Int) : Int := idxV (fun y => y.id == id) xs
theorem lastAt_good {xs : List AR} (h : goodA xs = true) (id : Int) : lastAt xs id xs.length = tbK xs id := by
  rcases idxV_cases (fun y : AR => y.id == id) xs with ⟨e, hn⟩ | ⟨k, x, e, hx, hp, -⟩
  · rw [tbK, e, lastAt_none hn]
  · rw [tbK, e, lastAt_one h hx (by simpa using hp) _ (List.getElem?_eq_some_iff.1 hx).1]
def tbX (y : AR) (day : Int) (ks : List Int) : AR := ⟨y.id, y.client, y.sent, y.items, ks, day⟩
def tbS (xs : List AR) (id day : Int) (ks : List Int) : List AR := match xs[(tbK xs id).toNat]? with
  | some y => xs.set (tbK xs id).toNat (tbX y day ks)
  | none => xs
def tbP (xs : List AR) (id day : Int) : Bool := decide (0 ≤ tbK xs id) && (match xs[(tbK xs id).toNat]? with
  | some y => decide (y.back = -1) && inR day 0 4000
  | none => false)
noncomputable def tbB (xs : List AR) (id day : Int) (ks : List Int) : Bool := goodA xs && (tbP xs id day && goodA (tbS xs id day ks))
noncomputable def tbV (xs : List AR) (id day : Int) (ks : List Int) : List AR := if tbB xs id day ks = true then tbS xs id day ks else []
theorem tb_small (xs : List AR) (id day : Int) (ks : List Int) : (tbV xs id day ks).length ≤ 1048576 ∧ (∀ x ∈ tbV xs id day ks, smA x) ∧ szA (tbV xs id day ks) ≤ 5242880 := by
  unfold tbV
  split
  · rename_i h
    simp only [tbB, Bool.and_eq_true] at h
    exact good_small h.2.2
  · exact small_nil
/-- What happens to a good list. -/
theorem tb_ways {xs : List AR} (h : goodA xs = true) (id day : Int) (ks : List Int) : (tbK xs id = -1 ∧ tbB xs id day ks = false) ∨ ∃ (k : Nat) (y : AR), tbK xs id = k ∧ xs[k]? = some y ∧
    ((0 ≤ y.back ∧ tbB xs id day ks = false) ∨ (y.back = -1 ∧ inR day 0 4000 = false ∧ tbB xs id day ks = false) ∨ (y.back = -1 ∧ inR day 0 4000 = true ∧ tbS xs id day ks = xs.set k (tbX y day ks) ∧ tbB xs id day ks = goodA (xs.set k (tbX y day ks)))) := by
  rcases idxV_cases (fun y : AR => y.id == id) xs with ⟨e, hn⟩ | ⟨k, y, e, hx, hp, -⟩
  · left
    have e' : tbK xs id = -1 := e
    exact ⟨e', by simp [tbB, tbP, e']⟩
  · right
    have e' : tbK xs id = k := e
    refine ⟨k, y, e', hx, ?_⟩
    have hS : tbS xs id day ks = xs.set k (tbX y day ks) := by simp [tbS, e', hx]
    have hPP : tbP xs id day = (decide (y.back = -1) && inR day 0 4000) := by simp [tbP, e', hx]
    rcases one_back (goodA_ones h y (List.mem_of_getElem? hx)) with hb | hb
    · right
      cases hd : inR day 0 4000 with
      | false => exact .inl ⟨hb, rfl, by simp [tbB, hPP, hd]⟩
      | true => exact .inr ⟨hb, rfl, hS, by simp [tbB, hPP, hd, hb, h, hS]⟩
    · exact .inl ⟨hb, by have : ¬ y.back = -1 := by omega
                         simp [tbB, hPP, this]⟩
/-- A new inner row in the place of an old one. -/
theorem OwnA.newKept {w w2 : World} {lo E EI g n cap B m : Nat} {xs ys : List AR} {vs : List Value} {b u : Value} {zs : List Int} (h : OwnA w lo E EI (.slice (some ⟨g, 0, none⟩) n cap) xs vs) (hlen : ys.length = xs.length) (hin : innA ys = (innA xs).set m zs) (hb : vs[m]? = some b)
    (hu : w2.ownsRow lo EI 1 u zs.length (cells1 zs)) (hB : ∀ (j : Nat) (a : Value) (k : Nat), (Value.slice (some ⟨g, 0, none⟩) n cap :: vs)[j]? = some a → a.ownBlock = some k → k < B) (hun : ∀ k, u.ownBlock = some k → B ≤ k)
    (hrow : w2.ownsRow lo E 6 (.slice (some ⟨g, 0, none⟩) n cap) n (cellsA ys (vs.set m u))) (hn : ys.length = n) (hg : w.grownBy w2 (some g)) (hc : ∀ y ∈ ys, y.client.size ≤ maxLen) : OwnA w2 lo E EI (.slice (some ⟨g, 0, none⟩) n cap) ys (vs.set m u) := by
  obtain ⟨hl, hr, hi, ha, hc0⟩ := h
  have hml := (List.getElem?_eq_some_iff.1 hb).1
  refine ⟨by simp [hl, hlen], by rw [hn]; exact hrow, fun j z q hz hq => ?_, ?_, hc⟩
  · rw [hin] at hz
    by_cases e : m = j
    · subst e
      have hil : m < (innA xs).length := by rw [innA_len]; omega
      rw [List.getElem?_set_self hil] at hz
      rw [List.getElem?_set_self hml] at hq
      obtain rfl := Option.some.inj hz
      obtain rfl := Option.some.inj hq
      exact hu
    · rw [List.getElem?_set_ne e] at hz hq
      exact (hi j z q hz hq).kept hg (ha.ne (i := j + 1) (j := 0) (by omega) (by simpa using hq) rfl)
  · have := ha.set (m := m + 1) (u := b) (u' := u) (B := B) (by simpa using hb) (fun k hk => .inr (hun k hk)) hB
    simpa using this
theorem split_at {xs : List AR} {k : Nat} {y : AR} (h : xs[k]? = some y) : xs = xs.take k ++ y :: xs.drop (k + 1) ∧ (xs.take k).length = k := by
  have hk := (List.getElem?_eq_some_iff.1 h).1
  exact ⟨by rw [← drop_cons h, List.take_append_drop], by rw [List.length_take]; omega⟩
theorem innA_kept (L : List AR) (x y : AR) (R : List AR) (h : y.items = x.items) : innA (L ++ y :: R) = (innA (L ++ x :: R)).set (2 * L.length + 1) y.kept := by
  rw [innA_split, innA_split, List.set_append_right _ _ (by rw [innA_len]; omega), innA_len, show 2 * L.length + 1 - 2 * L.length = 1 by omega, h]; rfl
theorem set_mid1 {α : Type} {V1 : List α} {i : Nat} (h : V1.length = i) (a b u : α) (V2 : List α) : (V1 ++ a :: b :: V2).set (i + 1) u = V1 ++ a :: u :: V2 := by
  subst h; rw [List.set_append_right _ _ (by omega), show V1.length + 1 - V1.length = 1 by omega]; rfl
/-- A row put, with other kept items and another day. -/
theorem OwnA.back {w4 w : World} {lo E EI g n cap k : Nat} {x : AR} {L R : List AR} {V1 V2 : List Value} {a b u : Value} (h4 : OwnA w4 lo E EI (.slice (some ⟨g, 0, none⟩) n cap) (L ++ x :: R) (V1 ++ a :: b :: V2)) (hb : Below w4.heap.size w4 w) (hi : L.length = k) (h1 : V1.length = 2 * k) (hn : (L ++ x :: R).length = n)
    (day : Int) (ks : List Int) (hu : w.ownsRow lo EI 1 u ks.length (cells1 ks)) (hun : ∀ k, u.ownBlock = some k → w4.heap.size ≤ k) :
    OwnA (w.setCells g (k * 6) (row6 (tbX x day ks) a u)) lo E EI (.slice (some ⟨g, 0, none⟩) n cap) (L ++ tbX x day ks :: R) (V1 ++ a :: u :: V2) ∧ OwnA ((w.setCell ⟨g, k * 6 + 5, none⟩ (.int .i64 day)).setCell ⟨g, k * 6 + 4, none⟩ u) lo E EI (.slice (some ⟨g, 0, none⟩) n cap) (L ++ tbX x day ks :: R) (V1 ++ a :: u :: V2) := by
  have h := h4.below hb
  have hcx := h4.2.2.2.2 x (by simp)
  have hl1 : V1.length = 2 * L.length := by omega
  have hyn : (L ++ tbX x day ks :: R).length = n := by rw [← hn]; simp
  have hlt := fun j a k hj hk => (h4.lt j a k hj hk).2
  have hgw : g < w4.heap.size := hlt 0 _ g rfl rfl
  have hug : u.ownBlock = none ∨ u.ownBlock ≠ some g := by
    cases e : u.ownBlock with
    | none => exact .inl rfl
    | some q => exact .inr fun e2 => by have := hun q e; injection e2 with e2; omega
  have hvs : (V1 ++ a :: b :: V2).set (2 * L.length + 1) u = V1 ++ a :: u :: V2 := set_mid1 hl1 a b u V2
  have hbm : (V1 ++ a :: b :: V2)[2 * L.length + 1]? = some b := by
    rw [List.getElem?_append_right (by omega), hl1, show 2 * L.length + 1 - 2 * L.length = 1 by omega]; rfl
  have hcl : ∀ z ∈ L ++ tbX x day ks :: R, z.client.size ≤ maxLen := fun z hz => by
    rcases List.mem_append.1 hz with hz | hz
    · exact h4.2.2.2.2 z (List.mem_append_left _ hz)
    · rcases List.mem_cons.1 hz with rfl | hz
      · exact hcx
      · exact h4.2.2.2.2 z (List.mem_append_right _ (List.mem_cons_of_mem _ hz))
  have hcL : (cellsA L V1).length = k * 6 := by rw [length_cellsA hl1, hi]
  constructor
  · have hr := h.2.1
    rw [hn, cellsA_split x R a b V2 hl1] at hr
    obtain ⟨s1, s2⟩ := own_setCells (row6 (tbX x day ks) a u) hr (k * 6)
    have hset := setAll_mid (row6 (tbX x day ks) a u) (cellsA L V1) (row6 x a b) (cellsA R V2) rfl
    rw [hcL] at hset
    rw [hset] at s1
    have := h.newKept (ys := L ++ tbX x day ks :: R) (m := 2 * L.length + 1) (u := u) (zs := ks) (by simp) (innA_kept L x (tbX x day ks) R rfl) hbm (hu.kept s2 hug) hlt hun (by rw [hvs, cellsA_split _ R a u V2 hl1]; exact s1) hyn s2 hcl
    rw [hvs] at this
    exact this
  · obtain ⟨o5, g5⟩ := h.store hi h1 hn ⟨x.id, x.client, x.sent, x.items, x.kept, day⟩ 5 (.int .i64 day) (by omega) rfl rfl rfl hcx
    have hr := o5.2.1
    rw [show (L ++ (⟨x.id, x.client, x.sent, x.items, x.kept, day⟩ : AR) :: R).length = n by rw [← hn]; simp] at hr
    obtain ⟨s1, s2⟩ := hr.stored (k * 6 + 4) u
    rw [cellsA_split _ R a b V2 hl1, set_mid6 hcL (by simp [row6])] at s1
    have := o5.newKept (ys := L ++ tbX x day ks :: R) (m := 2 * L.length + 1) (u := u) (zs := ks) (by simp) (innA_kept L _ (tbX x day ks) R rfl) hbm ((hu.kept g5 hug).kept s2 hug) hlt hun (by rw [hvs, cellsA_split _ R a u V2 hl1]; exact s1) hyn s2 hcl
    rw [hvs] at this
    exact this

/-! ### The program's closure -/
set_option maxHeartbeats 1000000 in
theorem tbF_any (x : AR) (B : Option Addr) (c : Nat) (D : Option Addr) (d : Nat) (id : Int) (b : Nat) (w : World) (hb : w.cell? ⟨b, 0, none⟩ = some (.int .i64 id)) :
    Calls Try.prog 45 #[.agg #[.int .i64 x.id, .string x.client, .int .i64 x.sent, .slice B x.items.length c, .slice D x.kept.length d, .int .i64 x.back], .pointer (some ⟨b, 0, none⟩)] w (Ret (.bool (x.id == id)) w) := by
  have hlt := World.block_lt_of_cell? w _ hb
  go_enter Try.func45, Try.ntmps45
  go_wp2
  go_ret
  exact ⟨ret_bool rfl, (Below.refl _ _).alloc (Nat.le_refl _) _⟩

set_option maxRecDepth 20000 in
set_option maxHeartbeats 2000000 in
theorem tbIndex_any (A : Option Addr) (n c : Nat) (xs : List AR) (id : Int) (b : Nat) (w : World) (hn : xs.length = n) (hA : RdA w A xs) (h20 : n ≤ 1048577) (hb : w.cell? ⟨b, 0, none⟩ = some (.int .i64 id)) :
    Calls Try.prog 44 #[.slice A n c, .func (.func 45) #[] #[.pointer (some ⟨b, 0, none⟩)]] w (Ret (.int .i64 (tbK xs id)) w) := by
  have hlt := World.block_lt_of_cell? w _ hb
  have HB := Lib.hid hb
  have HN := Lib.hid hn
  have HA := Lib.hid hA
  clear hb hn hA
  go_enter Try.func44, Try.ntmps44
  go_wp2_with fail
  go_loopw [8, 4, 5] (fun i r _ wr => ∃ (k : Nat), k ≤ n ∧ i = .int .i64 k ∧ r = .int .i64 0 ∧ (∀ (j : Nat) (y : AR), j < k → xs[j]? = some y → (y.id == id) = false) ∧ Below w.heap.size w wr) (fun i _ _ _ => n - (intOf i).toNat)
  case atStart => exact ⟨0, by omega, rfl, rfl, fun j y hj => by omega, Below.refl _ _⟩
  case round =>
    obtain ⟨k, hk, rfl, rfl, hrel, hb⟩ := hrel
    have HR := Lib.hid hrel
    clear hrel
    by_cases hlt : k < n
    · obtain ⟨x, hxk⟩ : ∃ x, xs[k]? = some x := ⟨xs[k]'(by have := HN.out; omega), List.getElem?_eq_getElem _⟩
      obtain ⟨g, o, B, cc, D, cd, hAe, hrow⟩ := (HA.out.below hb).at hxk
      subst hAe
      have HX := Lib.hid hxk
      obtain ⟨hg, -, c0, c1, c2, c3, c4, c5, -, -, -, -, -, -⟩ := hrow
      clear hxk
      go_wp2_with fail
      refine (tbF_any x B cc D cd id b _ ((hb.cell (p := ⟨b, 0, none⟩) (by assumption)).trans HB.out)).mono ?_
      rintro e w1 ⟨rfl, b1⟩
      have hb1 : Below w.heap.size w w1 := hb.trans (b1.mono hb.size)
      obtain ⟨q, hq⟩ : ∃ q, q = (x.id == id) := ⟨_, rfl⟩
      rw [← hq]
      have HQ := Lib.hid hq
      clear hq
      cases q with
      | true =>
        go_wp2
        go_ret
        exact ⟨ret_int (idxV_hit (p := fun (y : AR) => y.id == id) HR.out HX.out HQ.out.symm).symm, hb1⟩
      | false =>
        go_wp2
        go_roundw
        case rel =>
          refine ⟨k + 1, by omega, by go_num, rfl, fun j y hj hy => ?_, hb1⟩
          rcases Nat.lt_or_ge j k with h | h
          · exact HR.out j y h hy
          · have : j = k := by omega
            subst this; rw [HX.out] at hy; injection hy with hy; subst hy; exact HQ.out.symm
        case measure => simp [intOf]; omega
    · go_wp2
      go_ret
      exact ⟨ret_int (idxV_miss (p := fun (y : AR) => y.id == id) (fun j y hy => HR.out j y (by have := (List.getElem?_eq_some_iff.1 hy).1; have := HN.out; omega) hy)).symm, hb⟩

set_option maxRecDepth 20000 in
set_option maxHeartbeats 4000000 in
theorem specTakeBack_any (A : Option Addr) (n c : Nat) (xs : List AR) (id day : Int) (A3 : Option Addr) (n3 c3 : Nat) (ks : List Int) (w : World) (hn : xs.length = n) (hA : RdA w A xs) (h20 : n ≤ 1048576) (hw : ∀ x ∈ xs, smA x) (hcap : n ≤ c ∧ c ≤ maxLen) (hn3 : ks.length = n3) (hA3 : Rd w A3 (cells1 ks)) (h203 : n3 ≤ 1048576) :
    Calls Try.prog 14 #[.slice A n c, .int .i64 id, .int .i64 day, .slice A3 n3 c3] w (RetAB 41 3 (tbV xs id day ks) (tbB xs id day ks) w) := by
  subst hn3
  have C0 := Lib.hid (fun w h => l28Good_any A n c xs w hn h (by omega) hw)
  have CC := Lib.hid (fun w h => l28Own_any A n c xs w hn h h20 hw)
  have CD := Lib.hid (fun w => l2Day_any day w)
  have HA := Lib.hid hA
  have HA3 := Lib.hid hA3
  have HN := Lib.hid hn
  have HW := Lib.hid hw
  obtain ⟨V, hV⟩ : ∃ V, V = tbV xs id day ks := ⟨_, rfl⟩
  obtain ⟨Q, hQ⟩ : ∃ Q, Q = tbB xs id day ks := ⟨_, rfl⟩
  rw [← hV, ← hQ]
  have HV := Lib.hid hV
  have HQ := Lib.hid hQ
  clear hV hQ hn hA hA3 hw hcap
  go_enter Try.func14, Try.ntmps14
  go_wp2_with fail
  go_loopw [10, 11] (fun a j wr => ∃ k : Nat, k ≤ n ∧ j = .int .i64 k ∧ a = .int .i64 (lastAt xs id k) ∧ w = wr) (fun _ j _ => n - (intOf j).toNat)
  case atStart => exact ⟨0, Nat.zero_le _, rfl, rfl, rfl⟩
  case round =>
    obtain ⟨k0, hk0, rfl, rfl, rfl⟩ := hrel
    by_cases hlt : k0 < n
    · obtain ⟨x, hxk⟩ : ∃ x, xs[k0]? = some x := ⟨xs[k0]'(by have := HN.out; omega), List.getElem?_eq_getElem _⟩
      obtain ⟨g, o, B, cb, D, cd, hAe, hrow⟩ := HA.out.at hxk
      subst hAe
      obtain ⟨hg, -, c0, -, -, -, -, -, -, -, -, -, -, -⟩ := hrow
      by_cases he : x.id = id
      · have f1 : (x.id == id) = true := by simpa using he
        have HH := Lib.hid (lastAt_hit hxk he)
        clear he hxk
        go_wp2
        go_roundw
        case rel => exact ⟨k0 + 1, by omega, by go_num, by rw [HH.out], by trivial⟩
        case measure => simp [intOf]; omega
      · have f1 : (x.id == id) = false := by simpa using he
        have HH := Lib.hid (lastAt_miss hxk he)
        clear he hxk
        go_wp2
        go_roundw
        case rel => exact ⟨k0 + 1, by omega, by go_num, by rw [HH.out], by trivial⟩
        case measure => simp [intOf]; omega
    · have hd : decide (k0 < n) = false := by simpa using hlt
      have hke : k0 = xs.length := by have := HN.out; omega
      obtain ⟨T, hT⟩ : ∃ T, T = lastAt xs id k0 := ⟨_, rfl⟩
      rw [← hT]
      have HTT := Lib.hid hT
      have HKE := Lib.hid hke
      clear hT hke
      cases h0 : goodA xs with
      | false =>
        rw [h0] at C0
        have HF : Hid (tbB xs id day ks = false) := Lib.hid (by simp only [tbB, h0, Bool.false_and])
        clear h0
        go_wp2_with fail
        refine (C0.out _ HA.out).mono ?_
        rintro e w1 ⟨rfl, b1⟩
        have hsF := b1.size
        go_wp2
        go_ret2
        have e0 : V = [] := by rw [HV.out, tbV, if_neg (by rw [HF.out]; simp)]
        subst e0
        rw [show Q = false by rw [HQ.out, HF.out]]
        exact ⟨_, [], rfl, ownA_empty _ _ _ _ hsF, b1.alloc hsF _⟩
      | true =>
        rw [h0] at C0
        have HG := Lib.hid h0
        have HL : Hid (T = tbK xs id) := Lib.hid (by rw [HTT.out, HKE.out]; exact lastAt_good h0 id)
        clear h0
        go_wp2_with fail
        refine (C0.out _ HA.out).mono ?_
        rintro e w1 ⟨rfl, b1⟩
        have HB1 := Lib.hid b1
        clear b1
        rcases tb_ways HG.out id day ks with ⟨hk0, hF⟩ | ⟨k, y, hk0, hy, hway⟩
        · have HF := Lib.hid hF
          rw [HL.out, hk0]
          clear hF hk0
          have hsF := HB1.out.size
          go_wp2
          go_ret2
          have e0 : V = [] := by rw [HV.out, tbV, if_neg (by rw [HF.out]; simp)]
          subst e0
          rw [show Q = false by rw [HQ.out, HF.out]]
          exact ⟨_, [], rfl, ownA_empty _ _ _ _ hsF, HB1.out.alloc hsF _⟩
        · rw [HL.out, hk0]
          have HY := Lib.hid hy
          obtain ⟨g, o, B, cb, D, cd, hAe, hrow⟩ := (HA.out.below HB1.out).at hy
          subst hAe
          obtain ⟨hg, -, -, -, -, -, -, q5, -, -, -, -, -, -⟩ := hrow
          have hkn : k < n := by have := (List.getElem?_eq_some_iff.1 hy).1; have := HN.out; omega
          clear hy hk0
          rcases hway with ⟨hbk, hF⟩ | ⟨hbk, hd, hF⟩ | ⟨hbk, hd, hS, hBB⟩
          · have HF := Lib.hid hF
            have f1 : (y.back == -1) = false := by simp; omega
            have f2 : (y.back != -1) = true := by simp; omega
            have f3 : decide (0 ≤ y.back) = true := decide_eq_true hbk
            clear hF hbk
            have hsF := HB1.out.size
            go_wp2
            go_ret2
            have e0 : V = [] := by rw [HV.out, tbV, if_neg (by rw [HF.out]; simp)]
            subst e0
            rw [show Q = false by rw [HQ.out, HF.out]]
            exact ⟨_, [], rfl, ownA_empty _ _ _ _ hsF, HB1.out.alloc hsF _⟩
          · have HF := Lib.hid hF
            rw [hd] at CD
            rw [hbk] at q5
            clear hF hbk hd
            go_wp2_with fail
            refine (CD.out _).mono ?_
            rintro e w2 ⟨rfl, rfl⟩
            have hsF := HB1.out.size
            go_wp2
            go_ret2
            have e0 : V = [] := by rw [HV.out, tbV, if_neg (by rw [HF.out]; simp)]
            subst e0
            rw [show Q = false by rw [HQ.out, HF.out]]
            exact ⟨_, [], rfl, ownA_empty _ _ _ _ hsF, HB1.out.alloc hsF _⟩
          · rw [hd] at CD
            rw [hbk] at q5
            have HS := Lib.hid hS
            have HBB := Lib.hid hBB
            clear hS hBB hbk hd
            go_wp2_with fail
            refine (CD.out _).mono ?_
            rintro e w2 ⟨rfl, rfl⟩
            go_wp2_with fail
            refine (CC.out _ (HA.out.below HB1.out)).mono ?_
            rintro e w4 ⟨v, vs, rfl, o4, b4⟩
            have HB4 := Lib.hid (HB1.out.trans (b4.mono HB1.out.size))
            have hs4 := HB4.out.size
            have o4 := o4.mono HB1.out.size
            clear b4
            have hvl := o4.1
            obtain ⟨V1, a, b, V2, rfl, hV1⟩ := split2 (k := k) hvl (by have := HN.out; omega)
            obtain ⟨hxs, hkl⟩ := split_at HY.out
            obtain ⟨L, hL⟩ : ∃ L, L = xs.take k := ⟨_, rfl⟩
            obtain ⟨R, hR⟩ : ∃ R, R = xs.drop (k + 1) := ⟨_, rfl⟩
            rw [← hL, ← hR] at hxs
            rw [← hL] at hkl
            have HXS := Lib.hid hxs
            have hnL : (L ++ y :: R).length = n := by rw [← hxs]; exact HN.out
            have HSE : Hid (xs.set k (tbX y day ks) = L ++ tbX y day ks :: R) := Lib.hid (by rw [hxs]; exact mid_set hkl _ _ _)
            clear hL hR
            have hown := o4.2.1
            rw [HN.out] at hown
            rcases hown.2 with ⟨hv, h0⟩ | ⟨g4, c4, cur, hv, -⟩
            · omega
            subst hv
            rw [hxs] at o4
            have HKL := Lib.hid hkl
            have HV1 := Lib.hid hV1
            have HNL := Lib.hid hnL
            obtain ⟨cf, cz, hg4⟩ := o4.cells hkl hV1 hnL
            have ua := o4.2.2.1 (2 * k) y.items a (by rw [innA_split, List.getElem?_append_right (by rw [innA_len, hkl]; omega), innA_len, hkl, Nat.sub_self]; rfl) (by rw [List.getElem?_append_right (by omega), hV1, Nat.sub_self]; rfl)
            have ub := o4.2.2.1 (2 * k + 1) y.kept b (by rw [innA_split, List.getElem?_append_right (by rw [innA_len, hkl]; omega), innA_len, hkl, show 2 * k + 1 - 2 * k = 1 by omega]; rfl) (by rw [List.getElem?_append_right (by omega), hV1, show 2 * k + 1 - 2 * k = 1 by omega]; rfl)
            obtain ⟨Aa, ca, rfl⟩ := own_form ua
            obtain ⟨Ab, cb2, rfl⟩ := own_form ub
            have HO4 := Lib.hid o4
            have a0 := cf 0 _ rfl
            have a1 := cf 1 _ rfl
            have a2 := cf 2 _ rfl
            have a3 := cf 3 _ rfl
            have a4 := cf 4 _ rfl
            have a5 := cf 5 _ rfl
            simp only [Nat.add_zero] at a0
            clear cf cz ua ub hxs hown o4 hvl hkl hV1 hnL q5 hg
            obtain ⟨W3, hW3⟩ : ∃ W3, W3 = w4.alloc (.cells #[.int .i64 y.id, .string y.client, .int .i64 y.sent, .slice Aa y.items.length ca, .slice Ab y.kept.length cb2, .int .i64 day] 41) := ⟨_, rfl⟩
            have BW4 : Hid (Below w4.heap.size w4 W3) := Lib.hid (by rw [hW3]; exact (Below.refl _ _).alloc (Nat.le_refl _) _)
            have HY4 : Hid (Blk W3 w4.heap.size (row6 (tbX y day y.kept) (.slice Aa y.items.length ca) (.slice Ab y.kept.length cb2))) := Lib.hid (by rw [hW3]; exact Blk.new _ _ _)
            have HW3 := Lib.hid hW3
            clear hW3
            go_wp2_with fail
            rw [← HW3.out]
            refine (l1Own_any A3 _ c3 ks _ rfl (HA3.out.below (HB4.out.trans (BW4.out.mono hs4))) h203).mono ?_
            rintro e w6 ⟨u, rfl, o6, b6⟩
            obtain ⟨Au, cu, rfl⟩ := own_form o6
            have hzW : W3.heap.size = w4.heap.size + 1 := by rw [HW3.out]; simp
            have Y6 := HY4.out.below b6 (by rw [hzW]; omega)
            have x4 := Y6.cell 4 _ rfl
            have x4f := Y6.fr 4 (by simp [row6])
            have hy6 := Y6.lt
            have Y7 : Blk (w6.setCell ⟨w4.heap.size, 4, none⟩ (.slice Au ks.length cu)) w4.heap.size (row6 (tbX y day ks) (.slice Aa y.items.length ca) (.slice Au ks.length cu)) := Y6.set (i := 4) (by simp [row6]) _
            have m0 := Y7.cell 0 _ rfl
            have m1 := Y7.cell 1 _ rfl
            have m2 := Y7.cell 2 _ rfl
            have m3 := Y7.cell 3 _ rfl
            have m4 := Y7.cell 4 _ rfl
            have m5 := Y7.cell 5 _ rfl
            have BW6 : Hid (Below w4.heap.size w4 w6) := Lib.hid (BW4.out.trans (b6.mono (by rw [hzW]; omega)))
            have BW7 : Hid (Below w4.heap.size w4 (w6.setCell ⟨w4.heap.size, 4, none⟩ (.slice Au ks.length cu))) := Lib.hid (BW6.out.setCell (p := ⟨w4.heap.size, 4, none⟩) (Nat.le_refl _) _)
            have HU7 : Hid ((w6.setCell ⟨w4.heap.size, 4, none⟩ (.slice Au ks.length cu)).ownsRow w.heap.size 3 1 (.slice Au ks.length cu) ks.length (cells1 ks)) := Lib.hid (own_mono (own_only o6 (only_set w6 w4.heap.size 4 _) fun q hq e => by have := (o6.lt q hq).1; rw [hzW] at this; omega) (by rw [hzW]; omega))
            have HUN : Hid (∀ q, (Value.slice Au ks.length cu).ownBlock = some q → w4.heap.size ≤ q) := Lib.hid (fun q hq => by have := (o6.lt q hq).1; rw [hzW] at this; omega)
            have HRW7 := Lib.hid (own_there (by have h := (HO4.out.below BW7.out).2.1; rw [HNL.out] at h; exact h) (k * 6) 6 (by omega))
            have HSZ := Lib.hid size41
            have h1u : (#[.int .i64 y.id, .string y.client, .int .i64 y.sent, .slice Aa y.items.length ca, .slice Au ks.length cu, .int .i64 day] : Array Value).all (·.oneCell') = true := by simp [Value.oneCell']
            clear b6 o6 Y6 Y7
            go_wp2_with (refine wpList_store_mid (op := ⟨none, .store 41 (.tmp 63) (.tmp 62), _, _, _, _⟩) rfl _ _ _ rfl g4 (k * 6) #[.int .i64 y.id, .string y.client, .int .i64 y.sent, .slice Aa y.items.length ca, .slice Au ks.length cu, .int .i64 day] rfl rfl HRW7.out HSZ.out h1u ?_)
            have hf := (HO4.out.back BW7.out HKL.out HV1.out HNL.out day ks HU7.out HUN.out).1
            have HBF : Hid (Below w.heap.size w ((w6.setCell ⟨w4.heap.size, 4, none⟩ (.slice Au ks.length cu)).setCells g4 (k * 6) (row6 (tbX y day ks) (.slice Aa y.items.length ca) (.slice Au ks.length cu)))) := Lib.hid (by
              have hr := (HO4.out.below BW7.out).2.1
              rw [HNL.out] at hr
              exact (HB4.out.trans (BW7.out.mono hs4)).grown (own_setCells _ hr _).2 (HB4.out.trans (BW7.out.mono hs4)).size (fun q hq => by injection hq with hq; subst hq; exact (HO4.out.2.1.lt g4 rfl).1))
            obtain ⟨WF, hWF⟩ : ∃ W, W = (w6.setCell ⟨w4.heap.size, 4, none⟩ (.slice Au ks.length cu)).setCells g4 (k * 6) (row6 (tbX y day ks) (.slice Aa y.items.length ca) (.slice Au ks.length cu)) := ⟨_, rfl⟩
            have hWF2 : (w6.setCell ⟨w4.heap.size, 4, none⟩ (.slice Au ks.length cu)).setCells g4 (k * 6) [.int .i64 y.id, .string y.client, .int .i64 y.sent, .slice Aa y.items.length ca, .slice Au ks.length cu, .int .i64 day] = WF := hWF.symm
            rw [← hWF] at hf HBF
            first | rw [hWF2] | skip
            clear m0 m1 m2 m3 m4 m5 a0 a1 a2 a3 a4 a5 x4 x4f hy6
            rw [← HSE.out] at hf
            have HFF := Lib.hid hf
            have HCP := Lib.hid (own_cap (show World.ownsRow _ _ _ _ (.slice (some ⟨g4, 0, none⟩) n c4) n _ by have h := hf.2.1; rw [List.length_set, HN.out] at h; exact h))
            clear hf
            have HSM2 : Hid (∀ x ∈ xs.set k (tbX y day ks), smA x) := Lib.hid (fun x hx => by
              rcases List.mem_or_eq_of_mem_set hx with h | h
              · exact HW.out x h
              · subst h; have := HW.out y (List.mem_of_getElem? HY.out); exact ⟨this.1, this.2.1, h203⟩)
            have C1 := Lib.hid (fun w h => l28Good_any (some ⟨g4, 0, none⟩) n c4 (xs.set k (tbX y day ks)) w (by rw [List.length_set]; exact HN.out) h (by omega) HSM2.out)
            cases h1 : goodA (xs.set k (tbX y day ks)) with
            | false =>
              rw [h1] at C1
              have HF : Hid (tbB xs id day ks = false) := Lib.hid (by rw [HBB.out, h1])
              clear h1
              go_wp2_with fail
              refine (C1.out _ HFF.out.rd2).mono ?_
              rintro e w8 ⟨rfl, b8⟩
              have HB8 := Lib.hid (HBF.out.trans (b8.mono HBF.out.size))
              have hsF := HB8.out.size
              go_wp2
              go_ret2
              have e0 : V = [] := by rw [HV.out, tbV, if_neg (by rw [HF.out]; simp)]
              subst e0
              rw [show Q = false by rw [HQ.out, HF.out]]
              exact ⟨_, [], rfl, ownA_empty _ _ _ _ hsF, HB8.out.alloc hsF _⟩
            | true =>
              rw [h1] at C1
              have HF : Hid (tbB xs id day ks = true) := Lib.hid (by rw [HBB.out, h1])
              clear h1
              go_wp2_with fail
              refine (C1.out _ HFF.out.rd2).mono ?_
              rintro e w8 ⟨rfl, b8⟩
              have HB8 := Lib.hid (HBF.out.trans (b8.mono HBF.out.size))
              have HF8 := Lib.hid (HFF.out.below b8)
              clear b8
              go_wp2
              go_ret2
              have e0 : V = xs.set k (tbX y day ks) := by rw [HV.out, tbV, if_pos HF.out, HS.out]
              rw [show Q = true by rw [HQ.out, HF.out], e0]
              exact ⟨_, _, rfl, HF8.out, HB8.out⟩

set_option maxRecDepth 20000 in
set_option maxHeartbeats 4000000 in
theorem implTakeBack_any (A : Option Addr) (n c : Nat) (xs : List AR) (id day : Int) (A3 : Option Addr) (n3 c3 : Nat) (ks : List Int) (w : World) (hn : xs.length = n) (hA : RdA w A xs) (h20 : n ≤ 1048576) (hw : ∀ x ∈ xs, smA x) (hcap : n ≤ c ∧ c ≤ maxLen) (hn3 : ks.length = n3) (hA3 : Rd w A3 (cells1 ks)) (h203 : n3 ≤ 1048576) :
    Calls Try.prog 13 #[.slice A n c, .int .i64 id, .int .i64 day, .slice A3 n3 c3] w (RetAB 41 3 (tbV xs id day ks) (tbB xs id day ks) w) := by
  subst hn3
  have C0 := Lib.hid (fun w h => areApprovals_any A n c xs w hn h (by omega) hw hcap)
  have CC := Lib.hid (fun w h => copyApprovals_any A n c xs w hn h h20 hw)
  have CD := Lib.hid (fun w => isDay_any day w)
  have CI := Lib.hid (fun b w h hb => tbIndex_any A n c xs id b w hn h (by omega) hb)
  have HA := Lib.hid hA
  have HA3 := Lib.hid hA3
  have HN := Lib.hid hn
  have HW := Lib.hid hw
  obtain ⟨V, hV⟩ : ∃ V, V = tbV xs id day ks := ⟨_, rfl⟩
  obtain ⟨Q, hQ⟩ : ∃ Q, Q = tbB xs id day ks := ⟨_, rfl⟩
  rw [← hV, ← hQ]
  have HV := Lib.hid hV
  have HQ := Lib.hid hQ
  clear hV hQ hn hA hA3 hw hcap
  have HB0 := Lib.hid ((Below.refl w.heap.size w).alloc (Nat.le_refl _) (.cells #[.int .i64 id] 3))
  obtain ⟨K, hK⟩ : ∃ K, K = tbK xs id := ⟨_, rfl⟩
  rw [← hK] at CI
  have HK := Lib.hid hK
  clear hK
  cases h0 : goodA xs with
  | false =>
    rw [h0] at C0
    have HF : Hid (tbB xs id day ks = false) := Lib.hid (by simp only [tbB, h0, Bool.false_and])
    clear h0
    go_enter Try.func13, Try.ntmps13
    go_wp2_with fail
    refine (CI.out w.heap.size _ (HA.out.alloc _) (World.cell?_alloc_at _ _ _ _ rfl)).mono ?_
    rintro e w0 ⟨rfl, b0⟩
    have HB00 := Lib.hid (HB0.out.trans (b0.mono HB0.out.size))
    clear b0
    go_wp2_with fail
    refine (C0.out _ (HA.out.below HB00.out)).mono ?_
    rintro e w1 ⟨rfl, b1⟩
    have HB1 := Lib.hid (HB00.out.trans (b1.mono HB00.out.size))
    clear b1
    have hsF := HB1.out.size
    go_wp2
    go_ret2
    have e0 : V = [] := by rw [HV.out, tbV, if_neg (by rw [HF.out]; simp)]
    subst e0
    rw [show Q = false by rw [HQ.out, HF.out]]
    exact ⟨_, [], rfl, ownA_nil _ _ _ _, HB1.out⟩
  | true =>
    rw [h0] at C0
    have HG := Lib.hid h0
    clear h0
    go_enter Try.func13, Try.ntmps13
    go_wp2_with fail
    refine (CI.out w.heap.size _ (HA.out.alloc _) (World.cell?_alloc_at _ _ _ _ rfl)).mono ?_
    rintro e w0 ⟨rfl, b0⟩
    have HB00 := Lib.hid (HB0.out.trans (b0.mono HB0.out.size))
    clear b0
    go_wp2_with fail
    refine (C0.out _ (HA.out.below HB00.out)).mono ?_
    rintro e w1 ⟨rfl, b1⟩
    have HB1 := Lib.hid (HB00.out.trans (b1.mono HB00.out.size))
    clear b1
    rcases tb_ways HG.out id day ks with ⟨hk0, hF⟩ | ⟨k, y, hk0, hy, hway⟩
    · have HF := Lib.hid hF
      rw [HK.out, hk0]
      clear hF hk0
      have hsF := HB1.out.size
      go_wp2
      go_ret2
      have e0 : V = [] := by rw [HV.out, tbV, if_neg (by rw [HF.out]; simp)]
      subst e0
      rw [show Q = false by rw [HQ.out, HF.out]]
      exact ⟨_, [], rfl, ownA_nil _ _ _ _, HB1.out⟩
    · rw [HK.out, hk0]
      have HY := Lib.hid hy
      obtain ⟨g, o, B, cb, D, cd, hAe, hrow⟩ := (HA.out.below HB1.out).at hy
      subst hAe
      obtain ⟨hg, -, -, -, -, -, -, q5, -, -, -, -, -, -⟩ := hrow
      have hkn : k < n := by have := (List.getElem?_eq_some_iff.1 hy).1; have := HN.out; omega
      clear hy hk0
      rcases hway with ⟨hbk, hF⟩ | ⟨hbk, hd, hF⟩ | ⟨hbk, hd, hS, hBB⟩
      · have HF := Lib.hid hF
        have f1 : (y.back == -1) = false := by simp; omega
        have f2 : (y.back != -1) = true := by simp; omega
        have f3 : decide (0 ≤ y.back) = true := decide_eq_true hbk
        clear hF hbk
        have hsF := HB1.out.size
        go_wp2
        go_ret2
        have e0 : V = [] := by rw [HV.out, tbV, if_neg (by rw [HF.out]; simp)]
        subst e0
        rw [show Q = false by rw [HQ.out, HF.out]]
        exact ⟨_, [], rfl, ownA_nil _ _ _ _, HB1.out⟩
      · have HF := Lib.hid hF
        rw [hd] at CD
        rw [hbk] at q5
        clear hF hbk hd
        go_wp2_with fail
        refine (CD.out _).mono ?_
        rintro e w2 ⟨rfl, rfl⟩
        have hsF := HB1.out.size
        go_wp2
        go_ret2
        have e0 : V = [] := by rw [HV.out, tbV, if_neg (by rw [HF.out]; simp)]
        subst e0
        rw [show Q = false by rw [HQ.out, HF.out]]
        exact ⟨_, [], rfl, ownA_nil _ _ _ _, HB1.out⟩
      · rw [hd] at CD
        rw [hbk] at q5
        have HS := Lib.hid hS
        have HBB := Lib.hid hBB
        clear hS hBB hbk hd
        go_wp2_with fail
        refine (CD.out _).mono ?_
        rintro e w2 ⟨rfl, rfl⟩
        go_wp2_with fail
        refine (CC.out _ (HA.out.below HB1.out)).mono ?_
        rintro e w4 ⟨v, vs, rfl, o4, b4⟩
        have HB4 := Lib.hid (HB1.out.trans (b4.mono HB1.out.size))
        have hs4 := HB4.out.size
        have o4 := o4.mono HB1.out.size
        clear b4
        have hvl := o4.1
        obtain ⟨V1, a, b, V2, rfl, hV1⟩ := split2 (k := k) hvl (by have := HN.out; omega)
        obtain ⟨hxs, hkl⟩ := split_at HY.out
        obtain ⟨L, hL⟩ : ∃ L, L = xs.take k := ⟨_, rfl⟩
        obtain ⟨R, hR⟩ : ∃ R, R = xs.drop (k + 1) := ⟨_, rfl⟩
        rw [← hL, ← hR] at hxs
        rw [← hL] at hkl
        have HXS := Lib.hid hxs
        have hnL : (L ++ y :: R).length = n := by rw [← hxs]; exact HN.out
        have HSE : Hid (xs.set k (tbX y day ks) = L ++ tbX y day ks :: R) := Lib.hid (by rw [hxs]; exact mid_set hkl _ _ _)
        clear hL hR
        have hown := o4.2.1
        rw [HN.out] at hown
        rcases hown.2 with ⟨hv, h0⟩ | ⟨g4, c4, cur, hv, -⟩
        · omega
        subst hv
        rw [hxs] at o4
        have HKL := Lib.hid hkl
        have HV1 := Lib.hid hV1
        have HNL := Lib.hid hnL
        obtain ⟨cf, cz, hg4⟩ := o4.cells hkl hV1 hnL
        have ua := o4.2.2.1 (2 * k) y.items a (by rw [innA_split, List.getElem?_append_right (by rw [innA_len, hkl]; omega), innA_len, hkl, Nat.sub_self]; rfl) (by rw [List.getElem?_append_right (by omega), hV1, Nat.sub_self]; rfl)
        have ub := o4.2.2.1 (2 * k + 1) y.kept b (by rw [innA_split, List.getElem?_append_right (by rw [innA_len, hkl]; omega), innA_len, hkl, show 2 * k + 1 - 2 * k = 1 by omega]; rfl) (by rw [List.getElem?_append_right (by omega), hV1, show 2 * k + 1 - 2 * k = 1 by omega]; rfl)
        obtain ⟨Aa, ca, rfl⟩ := own_form ua
        obtain ⟨Ab, cb2, rfl⟩ := own_form ub
        have HO4 := Lib.hid o4
        clear ua ub hxs hown o4 hvl hkl hV1 hnL q5 hg cf cz
        go_wp2_with fail
        refine (cloneInt_any A3 _ c3 ks _ rfl (HA3.out.below HB4.out) h203).mono ?_
        rintro e w6 ⟨u, rfl, o6, b6⟩
        obtain ⟨Au, cu, rfl⟩ := own_form o6
        have BW7 := Lib.hid b6
        have HU7 : Hid (w6.ownsRow w.heap.size 3 1 (.slice Au ks.length cu) ks.length (cells1 ks)) := Lib.hid (own_mono o6 hs4)
        have HUN : Hid (∀ q, (Value.slice Au ks.length cu).ownBlock = some q → w4.heap.size ≤ q) := Lib.hid (fun q hq => (o6.lt q hq).1)
        have o5 := HO4.out.below b6
        obtain ⟨cf, cz, hg5⟩ := o5.cells HKL.out HV1.out HNL.out
        have a5 := cf 5 _ rfl
        have z5 := cz 5
        obtain ⟨o7, -⟩ := o5.store HKL.out HV1.out HNL.out ⟨y.id, y.client, y.sent, y.items, y.kept, day⟩ 5 (.int .i64 day) (by omega) rfl rfl rfl (HO4.out.2.2.2.2 y (by simp))
        obtain ⟨cf7, cz7, hg7⟩ := o7.cells HKL.out HV1.out (by rw [← HNL.out]; simp)
        have a4 := cf7 4 _ rfl
        have z4 := cz 4
        have hf := (HO4.out.back BW7.out HKL.out HV1.out HNL.out day ks HU7.out HUN.out).2
        have HBF : Hid (Below w.heap.size w ((w6.setCell ⟨g4, k * 6 + 5, none⟩ (.int .i64 day)).setCell ⟨g4, k * 6 + 4, none⟩ (.slice Au ks.length cu))) := Lib.hid (((HB4.out.trans (BW7.out.mono hs4)).setCell (p := ⟨g4, k * 6 + 5, none⟩) (HO4.out.2.1.lt g4 rfl).1 _).setCell (p := ⟨g4, k * 6 + 4, none⟩) (HO4.out.2.1.lt g4 rfl).1 _)
        clear o6 b6 o5 o7 cf cz cf7 cz7
        rw [← HSE.out] at hf
        have HFF := Lib.hid hf
        have HCP := Lib.hid (own_cap (show World.ownsRow _ _ _ _ (.slice (some ⟨g4, 0, none⟩) n c4) n _ by have h := hf.2.1; rw [List.length_set, HN.out] at h; exact h))
        clear hf
        have HSM2 : Hid (∀ x ∈ xs.set k (tbX y day ks), smA x) := Lib.hid (fun x hx => by
          rcases List.mem_or_eq_of_mem_set hx with h | h
          · exact HW.out x h
          · subst h; have := HW.out y (List.mem_of_getElem? HY.out); exact ⟨this.1, this.2.1, h203⟩)
        have C1 := Lib.hid (fun w h => areApprovals_any (some ⟨g4, 0, none⟩) n c4 (xs.set k (tbX y day ks)) w (by rw [List.length_set]; exact HN.out) h (by omega) HSM2.out HCP.out)
        cases h1 : goodA (xs.set k (tbX y day ks)) with
        | false =>
          rw [h1] at C1
          have HF : Hid (tbB xs id day ks = false) := Lib.hid (by rw [HBB.out, h1])
          clear h1
          go_wp2_with fail
          refine (C1.out _ HFF.out.rd2).mono ?_
          rintro e w8 ⟨rfl, b8⟩
          have HB8 := Lib.hid (HBF.out.trans (b8.mono HBF.out.size))
          have hsF := HB8.out.size
          go_wp2
          go_ret2
          have e0 : V = [] := by rw [HV.out, tbV, if_neg (by rw [HF.out]; simp)]
          subst e0
          rw [show Q = false by rw [HQ.out, HF.out]]
          exact ⟨_, [], rfl, ownA_nil _ _ _ _, HB8.out⟩
        | true =>
          rw [h1] at C1
          have HF : Hid (tbB xs id day ks = true) := Lib.hid (by rw [HBB.out, h1])
          clear h1
          go_wp2_with fail
          refine (C1.out _ HFF.out.rd2).mono ?_
          rintro e w8 ⟨rfl, b8⟩
          have HB8 := Lib.hid (HBF.out.trans (b8.mono HBF.out.size))
          have HF8 := Lib.hid (HFF.out.below b8)
          clear b8
          go_wp2
          go_ret2
          have e0 : V = xs.set k (tbX y day ks) := by rw [HV.out, tbV, if_pos HF.out, HS.out]
          rw [show Q = true by rw [HQ.out, HF.out], e0]
          exact ⟨_, _, rfl, HF8.out, HB8.out⟩

end Go.Proofs.Ytogjcnfhfpgbfaa
