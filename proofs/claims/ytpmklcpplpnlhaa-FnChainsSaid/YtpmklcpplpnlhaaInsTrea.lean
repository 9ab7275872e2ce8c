/- slices.Insert of one element into a list of Treaty that the call owns. -/
import Derived.Test.YtpmklcpplpnlhaaTrea
import Derived.Test.YtpmklcpplpnlhaaExt
import Derived.Lib.SliceRun
import Derived.Lib.AppendZerosOnto
import Derived.Lib.Overlaps
import Derived.Laws.Externs
import Derived.Laws.IdiomCopy
import Derived.Deep.RegionLaw
import Derived.Shelf.Spec.SlicesInsert
namespace Go.Proofs.Ytpmklcpplpnlhaa
set_option linter.unusedVariables false
set_option linter.unusedSimpArgs false
open Go.RowKit Go.Lib

/-- copy at elements of several cells. -/
theorem run_copyN {P : Program} (w : World) (dT sT ty elem : TypeId) (size b o dLen dCap : Nat) (a : Addr) (sLen sCap : Nat) (cs : List Value)
    (hu : P.underlying dT = some (.slice elem)) (hs : (P.info? elem).map (·.size) = some size) (hn : cs.length = Nat.min sLen dLen * size)
    (hsrc : ∀ j v, cs[j]? = some v → w.cell? (a.add j) = some v) (hc : ∀ j, j < cs.length → (w.cell? ⟨b, o + j, none⟩).isSome = true) (hf : ∀ j, j < cs.length → w.frozen? ⟨b, o + j, none⟩ = false) (h1 : ∀ v ∈ cs, v.oneCell' = true) :
    (Builtin.copy_ #[dT, sT] ty #[.slice (some ⟨b, o, none⟩) dLen dCap, .slice (some a) sLen sCap]).run P w = .ok (goInt (Nat.min sLen dLen)) (w.setCells b o cs) := by
  have hl := run_loadCells_list (P := P) w a cs hsrc
  have hst := run_storeCells_cells (P := P) b o cs 0 w (by simpa using hc) (by simpa using hf) h1
  cases hq : P.info? elem with
  | none => simp [hq] at hs
  | some i =>
    have hi : i.size = size := by simpa [hq] using hs
    simp [Builtin.copy_, run_underlying hu, Builtin.lenOf, Builtin.firstCells, sizeOf, typeInfo, hq, hi, ← hn, hl, hst]

/-- A row of the call's own with one element more, where there is room. -/
theorem own_extend {w : World} {base e size g n cap : Nat} {cs : List Value} (h : w.ownsRow base e size (.slice (some ⟨g, 0, none⟩) n cap) n cs) (hr : n + 1 ≤ cap) :
    ∃ ex, ex.length = size ∧ w.ownsRow base e size (.slice (some ⟨g, 0, none⟩) (n + 1) cap) (n + 1) (cs ++ ex) := by
  obtain ⟨hl, h2⟩ := h
  rcases h2 with ⟨h', _⟩ | ⟨g', cap', cur, h', hb, hg, hnc, hcm, hcs, htake⟩
  · cases h'
  · injection h' with e1 e2 e3
    injection e1 with e1
    injection e1 with e1 _
    subst e1; subst e3
    have hmul : (n + 1) * size ≤ cap * size := Nat.mul_le_mul_right _ hr
    have hsz : (n + 1) * size = n * size + size := by rw [Nat.add_mul, Nat.one_mul]
    refine ⟨(cur.toList.drop (n * size)).take size, by rw [List.length_take, List.length_drop, Array.length_toList]; omega, ?_, .inr ⟨g, cap, cur, rfl, hb, hg, hr, hcm, hcs, ?_⟩⟩
    · rw [List.length_append, hl, List.length_take, List.length_drop, Array.length_toList, hsz]; omega
    · rw [hsz, List.take_add, htake]
theorem own_cap {w : World} {base e size g n cap : Nat} {cs : List Value} (h : w.ownsRow base e size (.slice (some ⟨g, 0, none⟩) n cap) n cs) : n ≤ cap ∧ cap ≤ maxLen ∧ ∃ cur : Array Value, w.heap[g]? = some (.cells cur e (0, 0)) ∧ cur.size = cap * size := by
  rcases h.2 with ⟨h', _⟩ | ⟨g', cap', cur, h', hb, hg, hnc, hcm, hcs, htake⟩
  · cases h'
  · injection h' with e1 e2 e3
    injection e1 with e1
    injection e1 with e1 _
    subst e1; subst e3
    exact ⟨hnc, hcm, cur, hg, hcs⟩
theorem setAll_shift {cs ex xc : List Value} {size i n : Nat} (hl : cs.length = n * size) (he : ex.length = size) (hx : xc.length = size) (hi : i < n) :
    setAll (setAll (cs ++ ex) ((i + 1) * size) (cs.drop (i * size))) (i * size) xc = cs.take (i * size) ++ (xc ++ cs.drop (i * size)) := by
  have h1 : (i + 1) * size = i * size + size := by rw [Nat.add_mul, Nat.one_mul]
  have h2 : (i + 1) * size ≤ n * size := Nat.mul_le_mul_right _ hi
  have hp : (cs.take ((i + 1) * size)).length = (i + 1) * size := by rw [List.length_take]; omega
  have e1 := setAll_mid (cs.drop (i * size)) (cs.take ((i + 1) * size)) (cs.drop ((i + 1) * size) ++ ex) [] (by rw [List.length_append, List.length_drop, List.length_drop]; omega)
  rw [hp, List.append_nil, List.append_nil, ← List.append_assoc, List.take_append_drop] at e1
  rw [e1]
  have e2 : cs.take ((i + 1) * size) = cs.take (i * size) ++ (cs.drop (i * size)).take size := by rw [h1, List.take_add]
  have hp2 : (cs.take (i * size)).length = i * size := by rw [List.length_take]; omega
  have e3 := setAll_mid xc (cs.take (i * size)) ((cs.drop (i * size)).take size) (cs.drop (i * size)) (by rw [List.length_take, List.length_drop]; omega)
  rw [hp2] at e3
  rw [e2, List.append_assoc, e3]
theorem setAll_fresh {cs zs xc : List Value} {size i n : Nat} (hl : cs.length = n * size) (hz : zs.length = (n + 1 - i) * size) (hx : xc.length = size) (hi : i < n) :
    setAll (setAll (cs.take (i * size) ++ zs) (i * size) xc) ((i + 1) * size) (cs.drop (i * size)) = cs.take (i * size) ++ (xc ++ cs.drop (i * size)) := by
  have h1 : (i + 1) * size = i * size + size := by rw [Nat.add_mul, Nat.one_mul]
  have h2 : (i + 1) * size ≤ n * size := Nat.mul_le_mul_right _ hi
  have h3 : (n + 1 - i) * size = size + (n - i) * size := by rw [show n + 1 - i = (n - i) + 1 by omega, Nat.add_mul, Nat.one_mul]; omega
  have h4 : n * size = i * size + (n - i) * size := by rw [← Nat.add_mul]; congr 1; omega
  have hp : (cs.take (i * size)).length = i * size := by rw [List.length_take]; omega
  have e1 := setAll_mid xc (cs.take (i * size)) (zs.take size) (zs.drop size) (by rw [List.length_take]; omega)
  rw [hp, List.take_append_drop] at e1
  rw [e1]
  have e2 := setAll_mid (cs.drop (i * size)) (cs.take (i * size) ++ xc) (zs.drop size) [] (by rw [List.length_drop, List.length_drop]; omega)
  rw [List.length_append, hp, hx, ← h1] at e2
  simpa using e2

def RetIns (base E size n : Nat) (cs : List Value) (row : Option Nat) (W : World) : Ending → World → Prop := fun e w' => ∃ v, e = .returned v ∧ w'.ownsRow base E size v n cs ∧ W.grownBy w' row


theorem drew_own {w : World} {base e size n : Nat} {v : Value} {cs : List Value} (h : w.ownsRow base e size v n cs) : w.drew.ownsRow base e size v n cs := h
theorem grown_drew {w w' : World} {r : Option Nat} (h : w.grownBy w' r) : w.grownBy w'.drew r := ⟨h.os, h.tape, h.output, h.size, h.block⟩


end Go.Proofs.Ytpmklcpplpnlhaa
