/- Approvals: what the law on approvals asks, in plain Lean: sent items are out and with their client; taken back those that were not kept are at home, those that were are bought. -/
import Derived.Test.YtogjcnfhfpgbfaaAppF
import Derived.Test.YtogjcnfhfpgbfaaApQ
namespace Go.Proofs.Ytogjcnfhfpgbfaa
set_option linter.unusedVariables false
set_option linter.unusedSimpArgs false
open Go.RowKit

theorem whoP_app (xs ys : List AR) (item day : Int) (k : Nat) (hk : k ≤ xs.length) : whoP (xs ++ ys) item day k = whoP xs item day k := by
  unfold whoP
  rw [List.take_append_of_le_length hk]
/-- Sent items are out, and with their client. -/
theorem send_facts {xs : List AR} {cl : ByteArray} {day : Int} {zs : List Int} (h : siB xs cl day zs = true) :
    ioB (siV xs cl day zs) day = true ∧ ∀ z ∈ zs, whB (siV xs cl day zs) z day = true ∧ whB xs z day = true ∧ whV (siV xs cl day zs) z day = cl ∧ whV xs z day = ⟨#[]⟩ ∧ hasB (ioV (siV xs cl day zs) day) z = true := by
  have h' := h
  simp only [siB, Bool.and_eq_true] at h'
  obtain ⟨h1, h2⟩ := h'
  rw [siV, if_pos h]
  have hx : (siL xs cl day zs)[xs.length]? = some (siX xs cl day zs) := by simp [siL]
  have ho := okAt_one ((goodA_yes h2).1 _) hx
  have hd : 0 ≤ day ∧ day ≤ 4000 := (one_bd ho).1
  have hd' : inR day 0 4000 = true := inR_true.2 hd
  have hout : outB (siX xs cl day zs) day = true := by
    simp [outB, siX, inR]
  have hio : ioB (siL xs cl day zs) day = true := by simp only [ioB, h2, hd', Bool.and_self]
  refine ⟨hio, fun z hz => ?_⟩
  have hzi : hasB (siX xs cl day zs).items z = true := hasB_true.2 hz
  have hzb := (one_items ho).2 z hz
  have hzb' : inR z 1 999 = true := inR_true.2 hzb
  have w1 : whB (siL xs cl day zs) z day = true := by simp only [whB, h2, hd', hzb', Bool.and_self]
  have w2 : whB xs z day = true := by simp only [whB, h1, hd', hzb', Bool.and_self]
  have hemp := who_empty (goodA_pairs h2 hx) hzi (show (siX xs cl day zs).sent ≤ day from Int.le_refl _) xs.length (Nat.le_refl _)
  refine ⟨w1, w2, ?_, ?_, ?_⟩
  · rw [whV, if_pos w1, show (siL xs cl day zs).length = xs.length + 1 by simp [siL], whoP_step hx, whoStep, if_pos ⟨hzi, Int.le_refl _⟩, if_pos (by simp [heldA, siX])]
    rfl
  · rw [whV, if_pos w2]
    unfold siL at hemp
    rw [whoP_app _ _ _ _ _ (Nat.le_refl _)] at hemp
    exact hemp
  · rw [ioV, if_pos hio, hasB_true, putAll_mem]
    exact catP_in (List.mem_of_getElem? hx) (by rw [ioF, ioP, if_pos hout]; exact hz)

/-- What is taken back: kept items are bought and with the client, the others at home. -/
theorem back_facts {xs : List AR} {id day : Int} {ks : List Int} (h : tbB xs id day ks = true) {i : Nat} {x : AR} (hx : xs[i]? = some x) (hi : x.id = id) :
    byB (tbV xs id day ks) x.client = true ∧ ∀ z ∈ x.items, whB (tbV xs id day ks) z day = true ∧ (whV (tbV xs id day ks) z day = if hasB ks z = true then x.client else ⟨#[]⟩) ∧ (hasB ks z = true → hasB (byV (tbV xs id day ks) x.client) z = true) ∧ 1 ≤ x.client.size := by
  have h' := h
  simp only [tbB, Bool.and_eq_true] at h'
  obtain ⟨hg, -, hg2⟩ := h'
  rw [tbV, if_pos h]
  rcases tb_ways hg id day ks with ⟨-, hB⟩ | ⟨k, y, hk, hy, hw⟩
  · rw [hB] at h; cases h
  have hyid : y.id = id := by
    rcases idxV_cases (fun y : AR => y.id == id) xs with ⟨e, hn⟩ | ⟨k', y', e, hx', hp, -⟩
    · unfold tbK at hk; omega
    · unfold tbK at hk
      obtain rfl : k' = k := by omega
      rw [hy] at hx'; injection hx' with hx'; subst hx'
      simpa using hp
  have hik : i = k := by
    rcases Nat.lt_trichotomy i k with hlt | heq | hlt
    · have := good_ids hg hlt hx hy; omega
    · exact heq
    · have := good_ids hg hlt hy hx; omega
  subst hik
  rw [hx] at hy; injection hy with hy; subst hy
  rcases hw with ⟨-, hB⟩ | ⟨-, -, hB⟩ | ⟨hb, hday, hS, -⟩
  · rw [hB] at h; cases h
  · rw [hB] at h; cases h
  rw [hS] at hg2 ⊢
  have hil : i < xs.length := (List.getElem?_eq_some_iff.1 hx).1
  have hx2 : (xs.set i (tbX x day ks))[i]? = some (tbX x day ks) := List.getElem?_set_self hil
  have ho2 := okAt_one ((goodA_yes hg2).1 _) hx2
  have hd := inR_true.1 hday
  have hbd := one_bd ho2
  have hsent : x.sent ≤ day := by
    rcases hbd.2 with e | e
    · simp only [tbX] at e; omega
    · exact e.1
  have ho : oneA x = true := goodA_ones hg x (List.mem_of_getElem? hx)
  have hby : byB (xs.set i (tbX x day ks)) x.client = true := by simp only [byB, hg2, one_word ho, Bool.and_self]
  refine ⟨hby, fun z hz => ?_⟩
  have hzi : hasB (tbX x day ks).items z = true := hasB_true.2 hz
  have hzb := (one_items ho).2 z hz
  have hzb' : inR z 1 999 = true := inR_true.2 hzb
  have w1 : whB (xs.set i (tbX x day ks)) z day = true := by simp only [whB, hg2, hday, hzb', Bool.and_self]
  have hemp := who_empty (goodA_pairs hg2 hx2) hzi (show (tbX x day ks).sent ≤ day from hsent) i (Nat.le_refl _)
  have hstep : whoP (xs.set i (tbX x day ks)) z day (i + 1) = if hasB ks z = true then x.client else ⟨#[]⟩ := by
    rw [whoP_step hx2, whoStep, if_pos ⟨hzi, hsent⟩]
    have e : heldA (tbX x day ks) z day = hasB ks z := by
      simp only [heldA, tbX, Int.lt_irrefl, decide_false, Bool.false_or]
      rw [show (day == -1) = false by simp; omega, Bool.false_or]
    rw [e]
    rfl
  have hrest : ∀ m : Nat, i + 1 + m ≤ xs.length → whoP (xs.set i (tbX x day ks)) z day (i + 1 + m) = if hasB ks z = true then x.client else ⟨#[]⟩ := by
    intro m
    induction m with
    | zero => intro _; exact hstep
    | succ m ih =>
      intro hm
      have hu : xs[i + 1 + m]? = some xs[i + 1 + m] := List.getElem?_eq_getElem (by omega)
      have hu2 : (xs.set i (tbX x day ks))[i + 1 + m]? = some xs[i + 1 + m] := by rw [List.getElem?_set_ne (by omega)]; exact hu
      rw [show i + 1 + (m + 1) = (i + 1 + m) + 1 by omega, whoP_step hu2, whoStep, if_neg]
      · exact ih (by omega)
      · rintro ⟨hc, -⟩
        have hf := (goodA_pairs hg hu i x (by omega) hx).1
        have := freeB_at hf hc
        rw [badZ, hasB_true.2 hz, hb] at this
        simp at this
  refine ⟨w1, ?_, fun hk => ?_, one_client ho⟩
  · rw [whV, if_pos w1, List.length_set]
    have := hrest (xs.length - (i + 1)) (by omega)
    rwa [show i + 1 + (xs.length - (i + 1)) = xs.length by omega] at this
  · rw [byV, if_pos hby, hasB_true, putAll_mem]
    refine catP_in (List.mem_of_getElem? hx2) ?_
    have e : byP x.client (tbX x day ks) = true := by simp [byP, tbX]
    rw [byF, if_pos e]
    exact hasB_true.1 hk
theorem client_ne {a : ByteArray} (h : 1 ≤ a.size) : a ≠ ⟨#[]⟩ := by
  intro e; subst e; simp [ByteArray.size] at h
theorem client_ne2 {a : ByteArray} (h : 1 ≤ a.size) : (([] : List UInt8) == a.toList) = false ∧ ((⟨#[]⟩ : ByteArray).toList == a.toList) = false := by
  have e0 : (⟨#[]⟩ : ByteArray).toList = [] := by rw [ByteArray.toList_eq]
  have hn : a.toList ≠ [] := fun e => by
    rw [ByteArray.toList_eq] at e
    have : a.data = #[] := by cases hd : a.data; rw [hd] at e; simp at e; rw [e]
    have hs : a.size = a.data.size := rfl
    rw [hs, this] at h
    simp at h
  exact ⟨beq_eq_false_iff_ne.2 (fun e => hn e.symm), by rw [e0]; exact beq_eq_false_iff_ne.2 (fun e => hn e.symm)⟩
end Go.Proofs.Ytogjcnfhfpgbfaa
