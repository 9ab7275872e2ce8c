/- slices.Insert of one number into a list of ints that the call owns. -/
import Derived.Test.YtacacibpehnmgaaShelf
import Derived.Test.YtacacibpehnmgaaExt
import Derived.Lib.SliceRun
import Derived.Lib.AppendZerosOnto
import Derived.Laws.IdiomCopy
namespace Go.Proofs.Ytacacibpehnmgaa
set_option linter.unusedVariables false
set_option linter.unusedSimpArgs false
open Go.RowKit Go.Lib

/-- A row of the call's own with one element more, where there is room. -/
theorem own_extend {w : World} {base e size g n cap : Nat} {cs : List Value} (h : w.ownsRow base e size (.slice (some ⟨g, 0, none⟩) n cap) n cs) (hr : n + 1 ≤ cap) :
    ∃ ex, ex.length = size ∧ w.ownsRow base e size (.slice (some ⟨g, 0, none⟩) (n + 1) cap) (n + 1) (cs ++ ex) := by
  obtain ⟨hl, h2⟩ := h
  rcases h2 with ⟨h', _⟩ | ⟨g', cap', cur, h', hb, hg, hnc, hcm, hcs, htake⟩
  · cases h'
  · injection h' with e1 e2 e3
    injection e1 with e1
    injection e1 with e1 _
    subst e1; subst e3
    have hmul : (n + 1) * size ≤ cap * size := Nat.mul_le_mul_right _ hr
    have hsz : (n + 1) * size = n * size + size := by rw [Nat.add_mul, Nat.one_mul]
    refine ⟨(cur.toList.drop (n * size)).take size, by rw [List.length_take, List.length_drop, Array.length_toList]; omega, ?_, .inr ⟨g, cap, cur, rfl, hb, hg, hr, hcm, hcs, ?_⟩⟩
    · rw [List.length_append, hl, List.length_take, List.length_drop, Array.length_toList, hsz]; omega
    · rw [hsz, List.take_add, htake]
theorem own_cap {w : World} {base e size g n cap : Nat} {cs : List Value} (h : w.ownsRow base e size (.slice (some ⟨g, 0, none⟩) n cap) n cs) : n ≤ cap ∧ cap ≤ maxLen ∧ ∃ cur : Array Value, w.heap[g]? = some (.cells cur e (0, 0)) ∧ cur.size = cap * size := by
  rcases h.2 with ⟨h', _⟩ | ⟨g', cap', cur, h', hb, hg, hnc, hcm, hcs, htake⟩
  · cases h'
  · injection h' with e1 e2 e3
    injection e1 with e1
    injection e1 with e1 _
    subst e1; subst e3
    exact ⟨hnc, hcm, cur, hg, hcs⟩
theorem setAll_shift {cs ex xc : List Value} {size i n : Nat} (hl : cs.length = n * size) (he : ex.length = size) (hx : xc.length = size) (hi : i < n) :
    setAll (setAll (cs ++ ex) ((i + 1) * size) (cs.drop (i * size))) (i * size) xc = cs.take (i * size) ++ (xc ++ cs.drop (i * size)) := by
  have h1 : (i + 1) * size = i * size + size := by rw [Nat.add_mul, Nat.one_mul]
  have h2 : (i + 1) * size ≤ n * size := Nat.mul_le_mul_right _ hi
  have hp : (cs.take ((i + 1) * size)).length = (i + 1) * size := by rw [List.length_take]; omega
  have e1 := setAll_mid (cs.drop (i * size)) (cs.take ((i + 1) * size)) (cs.drop ((i + 1) * size) ++ ex) [] (by rw [List.length_append, List.length_drop, List.length_drop]; omega)
  rw [hp, List.append_nil, List.append_nil, ← List.append_assoc, List.take_append_drop] at e1
  rw [e1]
  have e2 : cs.take ((i + 1) * size) = cs.take (i * size) ++ (cs.drop (i * size)).take size := by rw [h1, List.take_add]
  have hp2 : (cs.take (i * size)).length = i * size := by rw [List.length_take]; omega
  have e3 := setAll_mid xc (cs.take (i * size)) ((cs.drop (i * size)).take size) (cs.drop (i * size)) (by rw [List.length_take, List.length_drop]; omega)
  rw [hp2] at e3
  rw [e2, List.append_assoc, e3]
theorem setAll_fresh {cs zs xc : List Value} {size i n : Nat} (hl : cs.length = n * size) (hz : zs.length = (n + 1 - i) * size) (hx : xc.length = size) (hi : i < n) :
    setAll (setAll (cs.take (i * size) ++ zs) (i * size) xc) ((i + 1) * size) (cs.drop (i * size)) = cs.take (i * size) ++ (xc ++ cs.drop (i * size)) := by
  have h1 : (i + 1) * size = i * size + size := by rw [Nat.add_mul, Nat.one_mul]
  have h2 : (i + 1) * size ≤ n * size := Nat.mul_le_mul_right _ hi
  have h3 : (n + 1 - i) * size = size + (n - i) * size := by rw [show n + 1 - i = (n - i) + 1 by omega, Nat.add_mul, Nat.one_mul]; omega
  have h4 : n * size = i * size + (n - i) * size := by rw [← Nat.add_mul]; congr 1; omega
  have hp : (cs.take (i * size)).length = i * size := by rw [List.length_take]; omega
  have e1 := setAll_mid xc (cs.take (i * size)) (zs.take size) (zs.drop size) (by rw [List.length_take]; omega)
  rw [hp, List.take_append_drop] at e1
  rw [e1]
  have e2 := setAll_mid (cs.drop (i * size)) (cs.take (i * size) ++ xc) (zs.drop size) [] (by rw [List.length_drop, List.length_drop]; omega)
  rw [List.length_append, hp, hx, ← h1] at e2
  simpa using e2

theorem drew_own {w : World} {base e size n : Nat} {v : Value} {cs : List Value} (h : w.ownsRow base e size v n cs) : w.drew.ownsRow base e size v n cs := h
theorem grown_drew {w w' : World} {r : Option Nat} (h : w.grownBy w' r) : w.grownBy w'.drew r := ⟨h.os, h.tape, h.output, h.size, h.block⟩


/-- Behind an insert: the row, in place or new. -/
def RetInsI (base E n : Nat) (cs : List Value) (row : Option Nat) (W : World) : Ending → World → Prop := fun e w' => ∃ v, e = .returned v ∧ w'.ownsRow base E 1 v n cs ∧ W.grownBy w' row ∧ (v.ownBlock = row ∨ v.ownBlock = some W.heap.size)

theorem insInt_any (base n i vb : Nat) (u : Value) (cs : List Value) (x : Value) (w : World) (ho : w.ownsRow base 3 1 u n cs) (hbase : base ≤ w.heap.size) (hi : i ≤ n) (h1c : ∀ v ∈ cs, v.oneCell' = true) (h1x : x.oneCell' = true) (hv : w.heap[vb]? = some (.cells #[x] 3 (0, 0))) (hvg : u.ownBlock ≠ some vb) (hn : n ≤ 1048576) :
    Calls Try.prog 32 #[u, .int .i64 i, .slice (some ⟨vb, 0, none⟩) 1 1] w (RetInsI base 3 (n + 1) (cs.take i ++ (x :: cs.drop i)) u.ownBlock w) := by
  have hcl := ho.1
  rw [Nat.mul_one] at hcl
  have hvs : ∀ j v, ([x] : List Value)[j]? = some v → w.cell? ⟨vb, 0 + j, none⟩ = some v := fun j v hj => by
    cases j with
    | zero => simp at hj; subst hj; simp [World.cell?, hv]
    | succ j => simp at hj
  have h1v : ∀ v ∈ ([x] : List Value), v.oneCell' = true := fun v hv => by simp at hv; subst hv; exact h1x
  rcases Nat.lt_or_ge i n with hlt | hge
  · rcases ho.2 with ⟨rfl, h0⟩ | ⟨g, cap, cur, rfl, hbg, hgb, hnc, hcm, hcs, htk⟩
    · omega
    · have hcc : ∀ j v, cs[j]? = some v → w.cell? ⟨g, 0 + j, none⟩ = some v := fun j v hj => by rw [Nat.zero_add, ho.cellAt j (by have := (List.getElem?_eq_some_iff.1 hj).1; omega)]; exact hj
      rcases Nat.lt_or_ge n cap with hroom | hfull
      · obtain ⟨ex, hex, hoe⟩ := own_extend ho hroom
        have hsp : ∀ j, j < n + 1 → (w.cell? ⟨g, 0 + j, none⟩).isSome = true := fun j hj => by rw [Nat.zero_add, hoe.cellAt j (by omega), List.getElem?_eq_getElem (by rw [hoe.1]; omega)]; rfl
        have h := Any2.slices_Insert_int_shift Try.laysIns g 0 n cap i vb 0 1 1 cs [x] w hlt (by omega) hroom (by unfold maxLen at hcm; omega) (fun e => hvg (by rw [e]; rfl)) hcl rfl hcc hsp (fun j _ => by rw [Nat.zero_add]; exact ho.frozenAt j) hvs h1c h1v 3 3 1 cur.size (by simp [World.shape?, hv]) (by simp [World.shape?, hgb]) (by omega) (by simp [World.frozen?, hv]) (by simp [World.frozen?, hv])
        refine Calls.mono (show Calls Try.prog 32 _ _ _ from h) ?_
        rintro e w' ⟨rfl, rfl⟩
        obtain ⟨o1, g1⟩ := own_setCells (cs.drop i) (drew_own hoe) (0 + (i + 1))
        obtain ⟨o2, g2⟩ := own_setCells [x] o1 (0 + i)
        have hsh := setAll_shift (cs := cs) (xc := [x]) (size := 1) (by omega) hex rfl hlt
        simp only [Nat.mul_one] at hsh
        simp only [Nat.zero_add] at o2 g1 g2 ⊢
        rw [hsh] at o2
        exact ⟨_, rfl, by simpa using o2, World.grownBy.trans (show w.grownBy _ (some g) from ⟨g1.os, g1.tape, g1.output, g1.size, g1.block⟩) g2, .inl rfl⟩
      · obtain rfl : cap = n := by omega
        have h := Any2.slices_Insert_int_grow Try.laysIns g 0 cap cap i vb 0 1 1 cs [x] w hlt (by omega) (by omega) (by omega) (by omega) hcl rfl hcc hvs h1c h1v
        refine Calls.mono (show Calls Try.prog 32 _ _ _ from h) ?_
        rintro e w' ⟨rfl, rfl⟩
        obtain ⟨G, hG⟩ : ∃ G, G = grownCap w (cap + 1) cap 3 := ⟨_, rfl⟩
        have hGn : cap + 1 ≤ G := by rw [hG]; exact grownCap_ge w _ _ _
        have hG63 : G ≤ maxLen := by rw [hG]; exact grownCap_le_maxLen w (cap + 1) cap 3 (by unfold maxLen; omega)
        obtain ⟨ROW, hROW⟩ : ∃ ROW : Array Value, ROW = (cs.take i).toArray ++ Builtin.zeroCells (Value.int .i64 0).cells (cap + 1 - i) ++ Builtin.zeroCells (Value.int .i64 0).cells (G - (cap + 1)) := ⟨_, rfl⟩
        have hRs : ROW.size = G * 1 := by rw [hROW]; simp [Builtin.zeroCells, Value.cells, List.length_take]; omega
        obtain ⟨zs, hzl, hRt⟩ : ∃ zs : List Value, zs.length = (cap + 1 - i) * 1 ∧ ROW.toList.take ((cap + 1) * 1) = cs.take (i * 1) ++ zs := by
          refine ⟨(Builtin.zeroCells (Value.int .i64 0).cells (cap + 1 - i)).toList, by simp [Builtin.zeroCells, Value.cells], ?_⟩
          rw [hROW]
          simp only [Array.toList_append, List.toList_toArray, Nat.mul_one]
          rw [List.take_append_of_le_length (by simp [Builtin.zeroCells, Value.cells, List.length_take]; omega), List.take_of_length_le (by simp [Builtin.zeroCells, Value.cells, List.length_take]; omega)]
        have o1 : (w.alloc (.cells ROW 3)).drew.ownsRow base 3 1 (.slice (some ⟨w.heap.size, 0, none⟩) (cap + 1) G) (cap + 1) (cs.take (i * 1) ++ zs) :=
          ⟨by rw [List.length_append, List.length_take, hzl]; omega, .inr ⟨w.heap.size, G, ROW, rfl, hbase, heap_alloc_new w _, hGn, hG63, hRs, hRt⟩⟩
        have b1 : Below w.heap.size w (w.alloc (.cells ROW 3)).drew := ((Below.refl _ _).alloc (Nat.le_refl _) _).drew
        obtain ⟨o2, g2⟩ := own_setCells [x] o1 i
        obtain ⟨o3, g3⟩ := own_setCells (cs.drop i) (drew_own o2) (i + 1)
        have hsf := setAll_fresh (cs := cs) (xc := [x]) (size := 1) (by omega) hzl rfl hlt
        simp only [Nat.mul_one] at hsf o3
        rw [hsf] at o3
        have b2 := b1.trans (own_below_store g2 b1.size (Nat.le_refl _))
        have b3 := b2.drew.trans (own_below_store g3 b2.size (Nat.le_refl _))
        refine ⟨.slice (some ⟨w.heap.size, 0, none⟩) (cap + 1) G, by rw [hG]; rfl, ?_, ?_, .inr rfl⟩
        · rw [show (Go.Proofs.Try.laysIns_ren).t 3 = 3 from rfl, ← hG, ← hROW]
          simpa using o3
        · rw [show (Go.Proofs.Try.laysIns_ren).t 3 = 3 from rfl, ← hG, ← hROW]
          exact ⟨b3.os, b3.tape, b3.output, b3.size, fun k hk _ => b3.block k hk⟩
  · obtain rfl : i = n := by omega
    have hcs2 : cs.take i ++ x :: cs.drop i = cs ++ [x] := by rw [List.take_of_length_le (by omega), List.drop_eq_nil_of_le (by omega)]
    rw [hcs2]
    rcases ho.2 with ⟨rfl, h0⟩ | ⟨g, cap, cur, rfl, hbg, hgb, hnc, hcm, hcs, htk⟩
    · subst h0
      have hc0 : cs = [] := List.eq_nil_of_length_eq_zero hcl
      subst hc0
      have h := Any2.slices_Insert_int_end_grow Try.laysIns none 0 0 vb 0 1 1 [] [x] w (by omega) (by omega) (by omega) (by omega) rfl rfl (fun _ => rfl) (fun a ha => by cases ha) hvs h1v
      refine Calls.mono (show Calls Try.prog 32 _ _ _ from h) ?_
      rintro e w' ⟨rfl, rfl⟩
      obtain ⟨G, hG⟩ : ∃ G, G = grownCap w (0 + 1) 0 3 := ⟨_, rfl⟩
      have hGn : 0 + 1 ≤ G := by rw [hG]; exact grownCap_ge w _ _ _
      have hG63 : G ≤ maxLen := by rw [hG]; exact grownCap_le_maxLen w (0 + 1) 0 3 (by unfold maxLen; omega)
      refine ⟨.slice (some ⟨w.heap.size, 0, none⟩) (0 + 1) G, by rw [hG]; rfl, ?_, ?_, .inr rfl⟩
      · rw [show (Go.Proofs.Try.laysIns_ren).t 3 = 3 from rfl, ← hG]
        exact ⟨by simp, .inr ⟨w.heap.size, G, _, rfl, hbase, heap_alloc_new w.drew _, hGn, hG63, by simp [Builtin.zeroCells, Value.cells]; omega, by simp⟩⟩
      · have b3 : Below w.heap.size w (w.drew.alloc (.cells (([] ++ [x] : List Value).toArray ++ Builtin.zeroCells (Value.int .i64 0).cells (G - (0 + 1))) 3)) := (Below.refl _ _).drew.alloc (Nat.le_refl _) _
        rw [show (Go.Proofs.Try.laysIns_ren).t 3 = 3 from rfl, ← hG]
        exact ⟨b3.os, b3.tape, b3.output, b3.size, fun k hk _ => b3.block k hk⟩
    · rcases Nat.lt_or_ge i cap with hroom | hfull
      · obtain ⟨ex, hex, hoe⟩ := own_extend ho hroom
        have h := Any2.slices_Insert_int_end_room Try.laysIns g 0 i cap vb 0 1 1 [x] w (by omega) hroom (by unfold maxLen at hcm; omega) rfl (fun j hj => by
          have : j = 0 := by omega
          subst this
          rw [Nat.zero_add, Nat.add_zero, hoe.cellAt i (by omega), List.getElem?_eq_getElem (by rw [hoe.1]; omega)]; rfl) (fun j _ => by rw [Nat.zero_add]; exact ho.frozenAt _) hvs h1v
        refine Calls.mono (show Calls Try.prog 32 _ _ _ from h) ?_
        rintro e w' ⟨rfl, rfl⟩
        obtain ⟨o2, g2⟩ := own_setCells [x] hoe (0 + i)
        have hsm := setAll_mid [x] cs ex [] (by simpa using hex.symm)
        rw [List.append_nil, List.append_nil, hcl] at hsm
        simp only [Nat.zero_add] at o2 g2 ⊢
        rw [hsm] at o2
        exact ⟨_, rfl, o2, g2, .inl rfl⟩
      · obtain rfl : cap = i := by omega
        have h := Any2.slices_Insert_int_end_grow Try.laysIns (some ⟨g, 0, none⟩) cap cap vb 0 1 1 cs [x] w (by omega) (by omega) (by omega) (by omega) hcl rfl (fun e => by cases e) (fun a ha j v hj => by
          injection ha with ha; subst ha
          rw [Addr.add_mid, Nat.zero_add, ho.cellAt j (by have := (List.getElem?_eq_some_iff.1 hj).1; omega)]; exact hj) hvs h1v
        refine Calls.mono (show Calls Try.prog 32 _ _ _ from h) ?_
        rintro e w' ⟨rfl, rfl⟩
        obtain ⟨G, hG⟩ : ∃ G, G = grownCap w (cap + 1) cap 3 := ⟨_, rfl⟩
        have hGn : cap + 1 ≤ G := by rw [hG]; exact grownCap_ge w _ _ _
        have hG63 : G ≤ maxLen := by rw [hG]; exact grownCap_le_maxLen w (cap + 1) cap 3 (by unfold maxLen; omega)
        refine ⟨.slice (some ⟨w.heap.size, 0, none⟩) (cap + 1) G, by rw [hG]; rfl, ?_, ?_, .inr rfl⟩
        · rw [show (Go.Proofs.Try.laysIns_ren).t 3 = 3 from rfl, ← hG]
          refine ⟨by simp; omega, .inr ⟨w.heap.size, G, _, rfl, hbase, heap_alloc_new w.drew _, hGn, hG63, by simp [Builtin.zeroCells, Value.cells]; omega, ?_⟩⟩
          simp only [Array.toList_append, List.toList_toArray]
          rw [List.take_append_of_le_length (by simp; omega), List.take_of_length_le (by simp; omega)]
        · have b3 : Below w.heap.size w (w.drew.alloc (.cells ((cs ++ [x] : List Value).toArray ++ Builtin.zeroCells (Value.int .i64 0).cells (G - (cap + 1))) 3)) := (Below.refl _ _).drew.alloc (Nat.le_refl _) _
          rw [show (Go.Proofs.Try.laysIns_ren).t 3 = 3 from rfl, ← hG]
          exact ⟨b3.os, b3.tape, b3.output, b3.size, fun k hk _ => b3.block k hk⟩
end Go.Proofs.Ytacacibpehnmgaa
