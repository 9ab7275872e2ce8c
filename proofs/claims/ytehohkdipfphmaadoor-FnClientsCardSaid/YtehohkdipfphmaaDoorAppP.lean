/- Approvals: WhereIs. -/
import Derived.Test.YtehohkdipfphmaaDoorAppN
namespace Go.Proofs.YtehohkdipfphmaaDoor
set_option linter.unusedVariables false
set_option linter.unusedSimpArgs false
open Go.RowKit

theorem kept_sub {x : AR} {z : Int} (h : oneA x = true) (hz : hasB x.kept z = true) : hasB x.items z = true := by
  rw [oneA_impl] at h
  simp only [Bool.and_eq_true] at h
  have h2 := h.2.2.2.2.2.2.2.1
  unfold kinA at h2; rw [List.all_eq_true] at h2
  exact h2 z (hasB_true.1 hz)
def outB (x : AR) (day : Int) : Bool := decide (x.sent ≤ day) && !inR x.back 0 day
def heldA (x : AR) (item day : Int) : Bool := x.back == -1 || (decide (day < x.back) || hasB x.kept item)
def whoStep (item day : Int) (who : ByteArray) (x : AR) : ByteArray := if hasB x.items item = true ∧ x.sent ≤ day then (if heldA x item day = true then x.client else ⟨#[]⟩) else who
def whoP (xs : List AR) (item day : Int) (k : Nat) : ByteArray := (xs.take k).foldl (whoStep item day) ⟨#[]⟩
theorem whoP_step {xs : List AR} {item day : Int} {k : Nat} {x : AR} (h : xs[k]? = some x) : whoP xs item day (k + 1) = whoStep item day (whoP xs item day k) x := by
  simp [whoP, List.take_add_one, h]
theorem who_empty {xs : List AR} {item day : Int} {x : AR} {k : Nat} (hf : ∀ (j : Nat) (y : AR), j < k → xs[j]? = some y → freeB y x = true ∧ oneA y = true) (h1 : hasB x.items item = true) (h2 : x.sent ≤ day) : ∀ j : Nat, j ≤ k → whoP xs item day j = ⟨#[]⟩
  | 0, _ => by simp [whoP]
  | j + 1, hj => by
    have ih := who_empty hf h1 h2 j (by omega)
    cases hy : xs[j]? with
    | none =>
      have e : whoP xs item day (j + 1) = whoP xs item day j := by simp [whoP, List.take_add_one, hy]
      rw [e]; exact ih
    | some y =>
      rw [whoP_step hy, ih, whoStep]
      split
      · rename_i hc
        obtain ⟨hfr, ho⟩ := hf j y (by omega) hy
        have := freeB_at hfr h1
        unfold badZ at this
        rw [hc.1, Bool.true_and] at this
        simp only [Bool.or_eq_false_iff, beq_eq_false_iff_ne, decide_eq_false_iff_not] at this
        obtain ⟨t1, t2, t3⟩ := this
        rw [if_neg]
        simp only [heldA, Bool.or_eq_true, beq_iff_eq, decide_eq_true_eq, t3, Bool.false_eq_true, or_false]
        omega
      · rfl
/-- The program's step. -/
theorem who_impl {xs : List AR} {item day : Int} {k : Nat} {x : AR} (hx : xs[k]? = some x) (ho : oneA x = true) (hd : 0 ≤ day) (hf : ∀ (j : Nat) (y : AR), j < k → xs[j]? = some y → freeB y x = true ∧ oneA y = true) :
    whoP xs item day (k + 1) = if ((outB x day && hasB x.items item) || (decide (x.sent ≤ day) && hasB x.kept item)) = true then x.client else whoP xs item day k := by
  rw [whoP_step hx, whoStep]
  have hb := one_back ho
  by_cases h : hasB x.items item = true ∧ x.sent ≤ day
  · rw [if_pos h, who_empty hf h.1 h.2 k (Nat.le_refl _)]
    have e : ((outB x day && hasB x.items item) || (decide (x.sent ≤ day) && hasB x.kept item)) = heldA x item day := by
      rw [h.1, Bool.and_true]
      cases hk : hasB x.kept item with
      | true => simp [heldA, hk, h.2]
      | false =>
        obtain ⟨-, hs⟩ := h
        rw [Bool.eq_iff_iff]
        simp only [outB, heldA, hk, Bool.and_false, Bool.or_false, Bool.and_eq_true, decide_eq_true_eq, Bool.not_eq_true', inR_false, Bool.or_eq_true, beq_iff_eq]
        omega
    rw [e]
  · rw [if_neg h, if_neg]
    intro hc
    simp only [Bool.or_eq_true, Bool.and_eq_true, decide_eq_true_eq, outB] at hc
    rcases hc with ⟨⟨h1, -⟩, h2⟩ | ⟨h1, h2⟩
    · exact h ⟨h2, h1⟩
    · exact h ⟨kept_sub ho h2, h1⟩
noncomputable def whB (xs : List AR) (item day : Int) : Bool := goodA xs && (inR item 1 999 && inR day 0 4000)
noncomputable def whV (xs : List AR) (item day : Int) : ByteArray := if whB xs item day = true then whoP xs item day xs.length else ⟨#[]⟩
theorem goodA_pairs {xs : List AR} {k : Nat} {x : AR} (h : goodA xs = true) (hx : xs[k]? = some x) : ∀ (j : Nat) (y : AR), j < k → xs[j]? = some y → freeB y x = true ∧ oneA y = true := fun j y hj hy =>
  ⟨okAt_free ((goodA_yes h).1 k) hx hy hj, okAt_one ((goodA_yes h).1 j) hy⟩
theorem ret_sb {a b : ByteArray} {c d : Bool} (h : a = b) (g : c = d) : Ending.returned (.tuple #[.string a, .bool c]) = .returned (.tuple #[.string b, .bool d]) := by rw [h, g]

theorem isOut_any (x : AR) (B : Option Addr) (c : Nat) (D : Option Addr) (d : Nat) (day : Int) (w : World) :
    Calls Tryd.prog 43 #[.agg #[.int .i64 x.id, .string x.client, .int .i64 x.sent, .slice B x.items.length c, .slice D x.kept.length d, .int .i64 x.back], .int .i64 day] w (Ret (.bool (outB x day)) w) := by
  have C := Lib.hid (fun w => inRange_any x.back 0 day w)
  by_cases h : x.sent ≤ day
  · have HV := Lib.hid (show outB x day = !inR x.back 0 day by simp [outB, h])
    go_enter Tryd.func43, Tryd.ntmps43
    go_wp2_with fail
    refine (C.out _).mono ?_
    rintro e w1 ⟨rfl, rfl⟩
    go_wp2
    go_ret
    exact ⟨ret_bool HV.out.symm, (Below.refl _ _).alloc (Nat.le_refl _) _⟩
  · have HV := Lib.hid (show outB x day = false by simp [outB, h])
    go_enter Tryd.func43, Tryd.ntmps43
    go_wp2
    go_ret
    exact ⟨ret_bool HV.out.symm, (Below.refl _ _).alloc (Nat.le_refl _) _⟩



end Go.Proofs.YtehohkdipfphmaaDoor
