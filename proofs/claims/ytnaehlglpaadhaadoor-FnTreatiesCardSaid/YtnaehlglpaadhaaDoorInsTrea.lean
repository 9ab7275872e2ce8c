/- slices.Insert of one element into a list of Treaty that the call owns. -/
import Derived.Test.YtnaehlglpaadhaaDoorTrea
import Derived.Test.YtnaehlglpaadhaaDoorExt
import Derived.Lib.SliceRun
import Derived.Lib.AppendZerosOnto
import Derived.Lib.Overlaps
import Derived.Laws.Externs
import Derived.Laws.IdiomCopy
import Derived.Deep.RegionLaw
import Derived.Shelf.Spec.SlicesInsert
namespace Go.Proofs.YtnaehlglpaadhaaDoor
set_option linter.unusedVariables false
set_option linter.unusedSimpArgs false
open Go.RowKit Go.Lib

/-- copy at elements of several cells. -/
theorem run_copyN {P : Program} (w : World) (dT sT ty elem : TypeId) (size b o dLen dCap : Nat) (a : Addr) (sLen sCap : Nat) (cs : List Value)
    (hu : P.underlying dT = some (.slice elem)) (hs : (P.info? elem).map (·.size) = some size) (hn : cs.length = Nat.min sLen dLen * size)
    (hsrc : ∀ j v, cs[j]? = some v → w.cell? (a.add j) = some v) (hc : ∀ j, j < cs.length → (w.cell? ⟨b, o + j, none⟩).isSome = true) (hf : ∀ j, j < cs.length → w.frozen? ⟨b, o + j, none⟩ = false) (h1 : ∀ v ∈ cs, v.oneCell' = true) :
    (Builtin.copy_ #[dT, sT] ty #[.slice (some ⟨b, o, none⟩) dLen dCap, .slice (some a) sLen sCap]).run P w = .ok (goInt (Nat.min sLen dLen)) (w.setCells b o cs) := by
  have hl := run_loadCells_list (P := P) w a cs hsrc
  have hst := run_storeCells_cells (P := P) b o cs 0 w (by simpa using hc) (by simpa using hf) h1
  cases hq : P.info? elem with
  | none => simp [hq] at hs
  | some i =>
    have hi : i.size = size := by simpa [hq] using hs
    simp [Builtin.copy_, run_underlying hu, Builtin.lenOf, Builtin.firstCells, sizeOf, typeInfo, hq, hi, ← hn, hl, hst]

/-- A row of the call's own with one element more, where there is room. -/
theorem own_extend {w : World} {base e size g n cap : Nat} {cs : List Value} (h : w.ownsRow base e size (.slice (some ⟨g, 0, none⟩) n cap) n cs) (hr : n + 1 ≤ cap) :
    ∃ ex, ex.length = size ∧ w.ownsRow base e size (.slice (some ⟨g, 0, none⟩) (n + 1) cap) (n + 1) (cs ++ ex) := by
  obtain ⟨hl, h2⟩ := h
  rcases h2 with ⟨h', _⟩ | ⟨g', cap', cur, h', hb, hg, hnc, hcm, hcs, htake⟩
  · cases h'
  · injection h' with e1 e2 e3
    injection e1 with e1
    injection e1 with e1 _
    subst e1; subst e3
    have hmul : (n + 1) * size ≤ cap * size := Nat.mul_le_mul_right _ hr
    have hsz : (n + 1) * size = n * size + size := by rw [Nat.add_mul, Nat.one_mul]
    refine ⟨(cur.toList.drop (n * size)).take size, by rw [List.length_take, List.length_drop, Array.length_toList]; omega, ?_, .inr ⟨g, cap, cur, rfl, hb, hg, hr, hcm, hcs, ?_⟩⟩
    · rw [List.length_append, hl, List.length_take, List.length_drop, Array.length_toList, hsz]; omega
    · rw [hsz, List.take_add, htake]
theorem own_cap {w : World} {base e size g n cap : Nat} {cs : List Value} (h : w.ownsRow base e size (.slice (some ⟨g, 0, none⟩) n cap) n cs) : n ≤ cap ∧ cap ≤ maxLen ∧ ∃ cur : Array Value, w.heap[g]? = some (.cells cur e (0, 0)) ∧ cur.size = cap * size := by
  rcases h.2 with ⟨h', _⟩ | ⟨g', cap', cur, h', hb, hg, hnc, hcm, hcs, htake⟩
  · cases h'
  · injection h' with e1 e2 e3
    injection e1 with e1
    injection e1 with e1 _
    subst e1; subst e3
    exact ⟨hnc, hcm, cur, hg, hcs⟩
theorem setAll_shift {cs ex xc : List Value} {size i n : Nat} (hl : cs.length = n * size) (he : ex.length = size) (hx : xc.length = size) (hi : i < n) :
    setAll (setAll (cs ++ ex) ((i + 1) * size) (cs.drop (i * size))) (i * size) xc = cs.take (i * size) ++ (xc ++ cs.drop (i * size)) := by
  have h1 : (i + 1) * size = i * size + size := by rw [Nat.add_mul, Nat.one_mul]
  have h2 : (i + 1) * size ≤ n * size := Nat.mul_le_mul_right _ hi
  have hp : (cs.take ((i + 1) * size)).length = (i + 1) * size := by rw [List.length_take]; omega
  have e1 := setAll_mid (cs.drop (i * size)) (cs.take ((i + 1) * size)) (cs.drop ((i + 1) * size) ++ ex) [] (by rw [List.length_append, List.length_drop, List.length_drop]; omega)
  rw [hp, List.append_nil, List.append_nil, ← List.append_assoc, List.take_append_drop] at e1
  rw [e1]
  have e2 : cs.take ((i + 1) * size) = cs.take (i * size) ++ (cs.drop (i * size)).take size := by rw [h1, List.take_add]
  have hp2 : (cs.take (i * size)).length = i * size := by rw [List.length_take]; omega
  have e3 := setAll_mid xc (cs.take (i * size)) ((cs.drop (i * size)).take size) (cs.drop (i * size)) (by rw [List.length_take, List.length_drop]; omega)
  rw [hp2] at e3
  rw [e2, List.append_assoc, e3]
theorem setAll_fresh {cs zs xc : List Value} {size i n : Nat} (hl : cs.length = n * size) (hz : zs.length = (n + 1 - i) * size) (hx : xc.length = size) (hi : i < n) :
    setAll (setAll (cs.take (i * size) ++ zs) (i * size) xc) ((i + 1) * size) (cs.drop (i * size)) = cs.take (i * size) ++ (xc ++ cs.drop (i * size)) := by
  have h1 : (i + 1) * size = i * size + size := by rw [Nat.add_mul, Nat.one_mul]
  have h2 : (i + 1) * size ≤ n * size := Nat.mul_le_mul_right _ hi
  have h3 : (n + 1 - i) * size = size + (n - i) * size := by rw [show n + 1 - i = (n - i) + 1 by omega, Nat.add_mul, Nat.one_mul]; omega
  have h4 : n * size = i * size + (n - i) * size := by rw [← Nat.add_mul]; congr 1; omega
  have hp : (cs.take (i * size)).length = i * size := by rw [List.length_take]; omega
  have e1 := setAll_mid xc (cs.take (i * size)) (zs.take size) (zs.drop size) (by rw [List.length_take]; omega)
  rw [hp, List.take_append_drop] at e1
  rw [e1]
  have e2 := setAll_mid (cs.drop (i * size)) (cs.take (i * size) ++ xc) (zs.drop size) [] (by rw [List.length_drop, List.length_drop]; omega)
  rw [List.length_append, hp, hx, ← h1] at e2
  simpa using e2

def RetIns (base E size n : Nat) (cs : List Value) (row : Option Nat) (W : World) : Ending → World → Prop := fun e w' => ∃ v, e = .returned v ∧ w'.ownsRow base E size v n cs ∧ W.grownBy w' row

set_option maxRecDepth 20000 in
set_option maxHeartbeats 4000000 in
theorem insTreaty_end (base n vb : Nat) (v : Value) (cs xc : List Value) (w : World) (ho : w.ownsRow base 44 5 v n cs) (hbase : base ≤ w.heap.size) (hv : w.heap[vb]? = some (.cells xc.toArray 44 (0, 0))) (hx : xc.length = 5) (h1x : ∀ u ∈ xc, u.oneCell' = true) (hn : n ≤ 1048576) :
    Calls Tryd.prog 53 #[v, .int .i64 n, .slice (some ⟨vb, 0, none⟩) 1 1] w (RetIns base 44 5 (n + 1) (cs ++ xc) v.ownBlock w) := by
  have hvs : vb < w.heap.size := (Array.getElem?_eq_some_iff.1 hv).1
  have hrx : Rd w (some ⟨vb, 0, none⟩) xc := .inr ⟨vb, 0, rfl, hvs, fun j u hu => by rw [Nat.zero_add]; simp [World.cell?, hv, hu]⟩
  have HO := Lib.hid ho
  have HRX := Lib.hid hrx
  have H1 := Lib.hid h1x
  rcases ho.2 with ⟨rfl, rfl⟩ | ⟨g, cap, cur, rfl, _, _, hnc, hcm, _⟩
  · clear ho hrx h1x hv
    go_enter Tryd.func53, Tryd.ntmps53
    go_wp2_with (at_builtin; go_must (refine wpList_app _ rfl (.tmp 23) (.tmp 24) 24 rfl base 44 _ 5 40 Tryd.underlying24 info44 rfl (by omega) _ _ _ rfl HO.out _ 1 1 xc rfl hx HRX.out H1.out (by unfold maxLen; omega) (by omega) hbase ?_); intro v' w' o' g' d')
    go_ret
    exact ⟨_, rfl, o', g'⟩
  · unfold maxLen at hcm
    clear ho hrx h1x hv
    by_cases hcn : cap = n
    · subst hcn
      go_enter Tryd.func53, Tryd.ntmps53
      go_wp2_with (at_builtin; go_must (refine wpList_app _ rfl (.tmp 23) (.tmp 24) 24 rfl base 44 _ 5 40 Tryd.underlying24 info44 rfl (by omega) _ _ _ rfl HO.out _ 1 1 xc rfl hx HRX.out H1.out (by unfold maxLen; omega) (by omega) hbase ?_); intro v' w' o' g' d')
      go_ret
      exact ⟨_, rfl, o', g'⟩
    · go_enter Tryd.func53, Tryd.ntmps53
      go_wp2_with (at_builtin; go_must (refine wpList_app _ rfl (.tmp 23) (.tmp 24) 24 rfl base 44 _ 5 40 Tryd.underlying24 info44 rfl (by omega) _ _ _ rfl HO.out _ 1 1 xc rfl hx HRX.out H1.out (by unfold maxLen; omega) (by omega) hbase ?_); intro v' w' o' g' d')
      go_ret
      exact ⟨_, rfl, o', g'⟩

theorem drew_own {w : World} {base e size n : Nat} {v : Value} {cs : List Value} (h : w.ownsRow base e size v n cs) : w.drew.ownsRow base e size v n cs := h
theorem grown_drew {w w' : World} {r : Option Nat} (h : w.grownBy w' r) : w.grownBy w'.drew r := ⟨h.os, h.tape, h.output, h.size, h.block⟩

set_option maxRecDepth 100000 in
set_option maxHeartbeats 4000000 in
theorem insTreaty_room (base n i g cap vb : Nat) (cs xc : List Value) (w : World) (ho : w.ownsRow base 44 5 (.slice (some ⟨g, 0, none⟩) n cap) n cs) (hi : i < n) (hroom : n + 1 ≤ cap) (h1c : ∀ u ∈ cs, u.oneCell' = true) (hv : w.heap[vb]? = some (.cells xc.toArray 44 (0, 0))) (hx : xc.length = 5) (h1x : ∀ u ∈ xc, u.oneCell' = true) (hvg : vb ≠ g) (hn : n ≤ 1048576) :
    Calls Tryd.prog 53 #[.slice (some ⟨g, 0, none⟩) n cap, .int .i64 i, .slice (some ⟨vb, 0, none⟩) 1 1] w (RetIns base 44 5 (n + 1) (cs.take (i * 5) ++ (xc ++ cs.drop (i * 5))) (some g) w) := by
  obtain ⟨hnc, hcm, cur, hcur, hcsz⟩ := own_cap ho
  obtain ⟨ex, hex, hoe⟩ := own_extend ho hroom
  have hcl := ho.1
  have hvx : ∀ j u, xc[j]? = some u → w.cell? ⟨vb, j, none⟩ = some u := fun j u hu => by simp [World.cell?, hv, hu]
  have hsp : ∀ j, j < (n + 1) * 5 → (w.cell? ⟨g, j, none⟩).isSome = true := fun j hj => by rw [hoe.cellAt j hj, List.getElem?_eq_getElem (by rw [hoe.1]; exact hj)]; rfl
  have hcc : ∀ j u, cs[j]? = some u → w.cell? ⟨g, j, none⟩ = some u := fun j u hu => by rw [ho.cellAt j (by have := (List.getElem?_eq_some_iff.1 hu).1; omega)]; exact hu
  have hsz5 := Lib.hid size44
  have hov : ∀ off lb cb, (callFunc 68 #[.slice (some ⟨vb, 0, none⟩) 1 1, .slice (some ⟨g, off, none⟩) lb cb]).run Tryd.prog w = .ok (.value (.bool false)) w := fun off lb cb => by
    rw [run_callFunc_extern Tryd.func68 (by kernel_rfl) (by kernel_rfl) (by kernel_rfl) (e := Extern.SlicesOverlaps.overlaps #[24, 24] #[4]) (by kernel_rfl),
      Lib.run_overlaps_apart w 24 4 44 Tryd.underlying24 5 (fun w => by kernel_rfl) ⟨vb, 0, none⟩ ⟨g, off, none⟩ 1 1 lb cb hvg 44 44 xc.toArray.size cur.size (by simp [World.shape?, hv]) (by simp [World.shape?, hcur]) (by omega) (by simp [World.frozen?, hv]) (by simp [World.frozen?, hv])]
    rfl
  have hw1 : IntKind.i64.wrap ((i : Int) + 1) = (i : Int) + 1 := IntWalk.i64_in _ (by omega)
  have hcn : ¬ cap = i := by omega
  have hcn1 : ¬ cap = i + 1 := by omega
  have hni : ¬ (i : Int) = (n : Int) := by omega
  have hin : i ≤ n := by omega
  have hroomi : ¬ (cap : Int) < (n : Int) + 1 := by omega
  have hcm2 : cap ≤ 9223372036854775807 := by unfold maxLen at hcm; omega
  have htn : ((i : Int) + 1).toNat = i + 1 := by omega
  have hi1 : (0 : Int) ≤ (i : Int) + 1 := by omega
  have hin1 : (i : Int) ≤ (n : Int) + 1 := by omega
  have hdl : (cs.drop (i * 5)).length = (n - i) * 5 := by rw [List.length_drop, hcl]; omega
  have hcp1 : ∀ ty dc sc, (Builtin.copy_ #[24, 24] ty #[.slice (some ⟨g, (i + 1) * 5, none⟩) (n - i) dc, .slice (some ⟨g, i * 5, none⟩) (n + 1 - i) sc]).run Tryd.prog w.drew = .ok (goInt (Nat.min (n + 1 - i) (n - i))) (w.drew.setCells g ((i + 1) * 5) (cs.drop (i * 5))) := fun ty dc sc =>
    run_copyN w.drew _ _ ty 44 5 g ((i + 1) * 5) (n - i) dc ⟨g, i * 5, none⟩ (n + 1 - i) sc (cs.drop (i * 5)) Tryd.underlying24 hsz5.out (by rw [hdl]; congr 1; simp only [Nat.min_def]; split <;> omega)
      (fun j v hj => by rw [Addr.add_mid]; exact hcc (i * 5 + j) v (by rwa [List.getElem?_drop] at hj))
      (fun j hj => hsp _ (by omega)) (fun j _ => ho.frozenAt _) (fun v hv => h1c v (List.mem_of_mem_drop hv))
  have hmin : Nat.min (n + 1 - i) (n - i) = n - i := by simp only [Nat.min_def]; split <;> omega
  rw [hmin] at hcp1
  obtain ⟨o1, g1⟩ := own_setCells (cs.drop (i * 5)) (drew_own hoe) ((i + 1) * 5)
  obtain ⟨W1, hW1⟩ : ∃ W1, W1 = w.drew.setCells g ((i + 1) * 5) (cs.drop (i * 5)) := ⟨_, rfl⟩
  rw [← hW1] at hcp1 o1 g1
  have hcp2 : ∀ ty dc, (Builtin.copy_ #[24, 24] ty #[.slice (some ⟨g, i * 5, none⟩) (n + 1 - i) dc, .slice (some ⟨vb, 0, none⟩) 1 1]).run Tryd.prog W1 = .ok (goInt 1) (W1.setCells g (i * 5) xc) := fun ty dc => by
    have h := run_copyN W1 24 24 ty 44 5 g (i * 5) (n + 1 - i) dc ⟨vb, 0, none⟩ 1 1 xc Tryd.underlying24 hsz5.out (by rw [hx]; simp only [Nat.min_def]; split <;> omega)
      (fun j v hj => by rw [Addr.add_mid, Nat.zero_add]; exact g1.cell (w := w.drew) (hvx j v hj) (by intro e; injection e with e; exact hvg e))
      (fun j hj => by rw [o1.cellAt _ (by omega), List.getElem?_eq_getElem (by rw [o1.1]; omega)]; rfl) (fun j _ => o1.frozenAt _) h1x
    rw [show Nat.min 1 (n + 1 - i) = 1 by simp only [Nat.min_def]; split <;> omega] at h
    exact h
  obtain ⟨o2, g2⟩ := own_setCells xc o1 (i * 5)
  rw [setAll_shift hcl hex hx hi] at o2
  have HO2 := Lib.hid o2
  have HG2 := Lib.hid (World.grownBy.trans (show w.grownBy W1 (some g) from ⟨g1.os, g1.tape, g1.output, g1.size, g1.block⟩) g2)
  have HCP1 := Lib.hid hcp1
  have HCP2 := Lib.hid hcp2
  clear hvx hsp hcc hcur hcsz hoe hex hcl ho h1c hv h1x hdl hcp1 hcp2 o1 g1 o2 g2 hmin hcm hnc hx hW1
  go_enter Tryd.func53, Tryd.ntmps53
  go_wp2_with (simp only [hov])
  go_region_law (refine step_copy_runI rfl (.tmp 73) (.tmp 76) 24 24 rfl (.slice (some ⟨g, (i + 1) * 5, none⟩) (n - i) (cap - (i + 1))) (.slice (some ⟨g, i * 5, none⟩) (n + 1 - i) (cap - i)) (by simp [Act.eval, Act.put]) (by simp [Act.eval, Act.put]) (HCP1.out _ _ _) ?_)
  go_wp2_with (refine wpList_copy_runI (o := ⟨some 82, _, _, _, _, _⟩) _ rfl (.tmp 80) (.tmp 81) 24 24 rfl (.slice (some ⟨g, i * 5, none⟩) (n + 1 - i) (cap - i)) (.slice (some ⟨vb, 0, none⟩) 1 1) rfl rfl (HCP2.out _ _) ?_)
  go_ret
  exact ⟨_, rfl, HO2.out, HG2.out⟩

set_option maxRecDepth 100000 in
set_option maxHeartbeats 4000000 in
theorem insTreaty_grow (base n i g vb : Nat) (cs xc : List Value) (w : World) (ho : w.ownsRow base 44 5 (.slice (some ⟨g, 0, none⟩) n n) n cs) (hbase : base ≤ w.heap.size) (hi : i < n) (h1c : ∀ u ∈ cs, u.oneCell' = true) (hv : w.heap[vb]? = some (.cells xc.toArray 44 (0, 0))) (hx : xc.length = 5) (h1x : ∀ u ∈ xc, u.oneCell' = true) (hn : n ≤ 1048576) :
    Calls Tryd.prog 53 #[.slice (some ⟨g, 0, none⟩) n n, .int .i64 i, .slice (some ⟨vb, 0, none⟩) 1 1] w (RetIns base 44 5 (n + 1) (cs.take (i * 5) ++ (xc ++ cs.drop (i * 5))) (some g) w) := by
  have hcl := ho.1
  have hgs : g < w.heap.size := by have := ho.lt g rfl; exact this.2
  have hvs : vb < w.heap.size := (Array.getElem?_eq_some_iff.1 hv).1
  have hvx : ∀ j u, xc[j]? = some u → w.cell? ⟨vb, j, none⟩ = some u := fun j u hu => by simp [World.cell?, hv, hu]
  have hcc : ∀ j u, cs[j]? = some u → w.cell? ⟨g, j, none⟩ = some u := fun j u hu => by rw [ho.cellAt j (by have := (List.getElem?_eq_some_iff.1 hu).1; omega)]; exact hu
  have hsz5 := Lib.hid size44
  obtain ⟨i0, hi0, hz0, hzs, hzb⟩ := info_parts info44
  have hik : i + (n + 1 - i) = n + 1 := by omega
  have hkk : (n : Int) + 1 - (i : Int) = ((n + 1 - i : Nat) : Int) := by omega
  have hold : (Builtin.firstCells i0.size i (.slice (some ⟨g, 0, none⟩) i n)).run Tryd.prog w.drew = .ok (cs.take (i * 5)).toArray w.drew := by
    rw [hzs]
    exact run_firstCells_some w.drew 5 i ⟨g, 0, none⟩ i n (cs.take (i * 5)) (by rw [List.length_take]; omega) (fun j v hj => by
      rw [Addr.add_mid, Nat.zero_add]
      rw [List.getElem?_take] at hj
      split at hj
      · exact hcc j v hj
      · cases hj)
  obtain ⟨G, hG⟩ : ∃ G, G = grownCap w (n + 1) n 44 := ⟨_, rfl⟩
  obtain ⟨ROW, hROW⟩ : ∃ ROW : Array Value, ROW = (cs.take (i * 5)).toArray ++ Builtin.zeroCells (Value.agg #[.int .i64 0, .int .i64 0, .int .i64 0, .int .i64 0, .int .i64 0]).cells (n + 1 - i) ++ Builtin.zeroCells (Value.agg #[.int .i64 0, .int .i64 0, .int .i64 0, .int .i64 0, .int .i64 0]).cells (G - (n + 1)) := ⟨_, rfl⟩
  have hrz : ∀ ty, (Builtin.append_ #[24, 3] ty #[.slice (some ⟨g, 0, none⟩) i n, .int .i64 ((n : Int) + 1 - (i : Int))]).run Tryd.prog w = .ok (.slice (some ⟨w.heap.size, 0, none⟩) (n + 1) G) (w.drew.alloc (.cells ROW 44)) := fun ty => by
    have h := Lib.run_append_grow_zeros (P := Tryd.prog) w 24 3 ty 44 i0 _ .i64 .i64 Tryd.underlying24 Tryd.underlying3 hi0 hz0 (some ⟨g, 0, none⟩) i n (cs.take (i * 5)) hold (n + 1 - i) (by omega) (by omega) (by omega) (by omega) (by rw [hzb]; omega) (by rw [hzb, hik]; exact growslice_fits (by omega) (by omega))
    rw [hik, ← hG, ← hROW] at h
    rw [hkk]
    exact h
  have hGn : n + 1 ≤ G := by rw [hG]; exact grownCap_ge w _ _ _
  have hG63 : G ≤ maxLen := by rw [hG]; exact grownCap_le_maxLen w (n + 1) n 44 (by unfold maxLen; omega)
  have hRs : ROW.size = G * 5 := by
    rw [hROW]
    simp [Builtin.zeroCells, Value.cells, List.length_take]
    omega
  obtain ⟨zs, hzl, hRt⟩ : ∃ zs : List Value, zs.length = (n + 1 - i) * 5 ∧ ROW.toList.take ((n + 1) * 5) = cs.take (i * 5) ++ zs := by
    refine ⟨(Builtin.zeroCells (Value.agg #[.int .i64 0, .int .i64 0, .int .i64 0, .int .i64 0, .int .i64 0]).cells (n + 1 - i)).toList, by simp [Builtin.zeroCells, Value.cells], ?_⟩
    rw [hROW]
    simp only [Array.toList_append, List.toList_toArray]
    rw [List.take_append_of_le_length (by simp [Builtin.zeroCells, Value.cells, List.length_take]; omega), List.take_of_length_le (by simp [Builtin.zeroCells, Value.cells, List.length_take]; omega)]
  obtain ⟨W1, hW1⟩ : ∃ W1, W1 = w.drew.alloc (.cells ROW 44) := ⟨_, rfl⟩
  have o1 : W1.ownsRow base 44 5 (.slice (some ⟨w.heap.size, 0, none⟩) (n + 1) G) (n + 1) (cs.take (i * 5) ++ zs) := by
    rw [hW1]
    exact ⟨by rw [List.length_append, List.length_take, hzl]; omega, .inr ⟨w.heap.size, G, ROW, rfl, hbase, heap_alloc_new w.drew _, hGn, hG63, hRs, hRt⟩⟩
  have b1 : Below w.heap.size w W1 := by rw [hW1]; exact ((Below.refl _ _).drew).alloc (Nat.le_refl _) _
  rw [← hW1] at hrz
  have hcpA : ∀ ty dc, (Builtin.copy_ #[24, 24] ty #[.slice (some ⟨w.heap.size, i * 5, none⟩) (n + 1 - i) dc, .slice (some ⟨vb, 0, none⟩) 1 1]).run Tryd.prog W1 = .ok (goInt 1) (W1.setCells w.heap.size (i * 5) xc) := fun ty dc => by
    have h := run_copyN (P := Tryd.prog) W1 24 24 ty 44 5 w.heap.size (i * 5) (n + 1 - i) dc ⟨vb, 0, none⟩ 1 1 xc Tryd.underlying24 hsz5.out (by rw [hx]; simp only [Nat.min_def]; split <;> omega)
      (fun j v hj => by rw [Addr.add_mid, Nat.zero_add]; exact (b1.cell (p := ⟨vb, j, none⟩) hvs).trans (hvx j v hj))
      (fun j hj => by rw [o1.cellAt _ (by omega), List.getElem?_eq_getElem (by rw [o1.1]; omega)]; rfl) (fun j _ => o1.frozenAt _) h1x
    rw [show Nat.min 1 (n + 1 - i) = 1 by simp only [Nat.min_def]; split <;> omega] at h
    exact h
  obtain ⟨o2, g2⟩ := own_setCells xc o1 (i * 5)
  obtain ⟨W2, hW2⟩ : ∃ W2, W2 = W1.setCells w.heap.size (i * 5) xc := ⟨_, rfl⟩
  rw [← hW2] at hcpA o2 g2
  have b2 : Below w.heap.size w W2 := b1.trans (own_below_store g2 b1.size (Nat.le_refl _))
  have hcpB : ∀ ty dc, (Builtin.copy_ #[24, 24] ty #[.slice (some ⟨w.heap.size, (i + 1) * 5, none⟩) (n - i) dc, .slice (some ⟨g, i * 5, none⟩) (n - i) (n - i)]).run Tryd.prog W2.drew = .ok (goInt ((n - i : Nat) : Int)) (W2.drew.setCells w.heap.size ((i + 1) * 5) (cs.drop (i * 5))) := fun ty dc => by
    have h := run_copyN (P := Tryd.prog) W2.drew 24 24 ty 44 5 w.heap.size ((i + 1) * 5) (n - i) dc ⟨g, i * 5, none⟩ (n - i) (n - i) (cs.drop (i * 5)) Tryd.underlying24 hsz5.out (by rw [List.length_drop, hcl]; simp only [Nat.min_def]; split <;> omega)
      (fun j v hj => by rw [Addr.add_mid]; exact (b2.cell (p := ⟨g, i * 5 + j, none⟩) hgs).trans (hcc (i * 5 + j) v (by rwa [List.getElem?_drop] at hj)))
      (fun j hj => by rw [List.length_drop] at hj; exact (by rw [show W2.drew.cell? ⟨w.heap.size, (i + 1) * 5 + j, none⟩ = W2.cell? ⟨w.heap.size, (i + 1) * 5 + j, none⟩ from rfl, o2.cellAt _ (by omega), List.getElem?_eq_getElem (by rw [o2.1]; omega)]; rfl)) (fun j _ => o2.frozenAt _) (fun v hv => h1c v (List.mem_of_mem_drop hv))
    rw [show Nat.min (n - i) (n - i) = n - i by simp only [Nat.min_def]; split <;> omega] at h
    exact h
  obtain ⟨o3, g3⟩ := own_setCells (cs.drop (i * 5)) (drew_own o2) ((i + 1) * 5)
  rw [setAll_fresh hcl hzl hx hi] at o3
  have HO3 := Lib.hid o3
  have b3 : Below w.heap.size w (W2.drew.setCells w.heap.size ((i + 1) * 5) (cs.drop (i * 5))) := b2.drew.trans (own_below_store g3 b2.size (Nat.le_refl _))
  have HG3 := Lib.hid (show w.grownBy (W2.drew.setCells w.heap.size ((i + 1) * 5) (cs.drop (i * 5))) (some g) from ⟨b3.os, b3.tape, b3.output, b3.size, fun k hk _ => b3.block k hk⟩)
  have HRZ := Lib.hid hrz
  have HCA := Lib.hid hcpA
  have HCB := Lib.hid hcpB
  have hw1 : IntKind.i64.wrap ((i : Int) + 1) = (i : Int) + 1 := IntWalk.i64_in _ (by omega)
  have hni : ¬ (i : Int) = (n : Int) := by omega
  have hin : i ≤ n := by omega
  have hci : ¬ n = i := by omega
  have hGi : ¬ G = i := by omega
  have hGi1 : ¬ G = i + 1 := by omega
  have hG2 : G ≤ 9223372036854775807 := by unfold maxLen at hG63; omega
  have htn : ((i : Int) + 1).toNat = i + 1 := by omega
  have hi1 : (0 : Int) ≤ (i : Int) + 1 := by omega
  have hin1 : (i : Int) ≤ (n : Int) + 1 := by omega
  have hini : (i : Int) ≤ (n : Int) := by omega
  clear hvx hcc hcl ho h1c hv h1x hrz hcpA hcpB o1 g2 o2 g3 o3 b1 b2 b3 hW1 hW2 hROW hRt hRs hold hkk hik hi0 hz0 hzs hzb hG63 hzl hx hG hvs hgs
  go_enter Tryd.func53, Tryd.ntmps53
  go_wp2_with (first
    | (at_builtin; go_must (refine Lib.wpList_append_run _ rfl (.tmp 34) (.tmp 39) 24 3 rfl (.slice (some ⟨g, 0, none⟩) i n) (.int .i64 ((n : Int) + 1 - (i : Int))) rfl rfl _ _ (HRZ.out _) ?_))
    | (refine wpList_copy_runI (o := ⟨some 45, _, _, _, _, _⟩) _ rfl (.tmp 43) (.tmp 44) 24 24 rfl (.slice (some ⟨w.heap.size, i * 5, none⟩) (n + 1 - i) (G - i)) (.slice (some ⟨vb, 0, none⟩) 1 1) rfl rfl (HCA.out _ _) ?_))
  go_region_law (refine step_copy_runI rfl (.tmp 50) (.tmp 53) 24 24 rfl (.slice (some ⟨w.heap.size, (i + 1) * 5, none⟩) (n - i) (G - (i + 1))) (.slice (some ⟨g, i * 5, none⟩) (n - i) (n - i)) (by simp [Act.eval, Act.put]) (by simp [Act.eval, Act.put]) (HCB.out _ _) ?_)
  go_wp2
  go_ret
  exact ⟨_, rfl, HO3.out, HG3.out⟩
end Go.Proofs.YtnaehlglpaadhaaDoor
