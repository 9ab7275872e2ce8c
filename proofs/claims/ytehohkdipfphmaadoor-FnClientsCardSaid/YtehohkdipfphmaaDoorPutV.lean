/- Numbers put to their place, once: the same as sorting and leaving out what stands twice. -/
import Derived.Lib.SlicesCompact
namespace Go.Proofs.YtehohkdipfphmaaDoor
set_option linter.unusedVariables false
set_option linter.unusedSimpArgs false
open Go.Lib

def putV : List Int → Int → List Int
  | [], n => [n]
  | a :: l, n => if a < n then a :: putV l n else if a = n then a :: l else n :: a :: l
/-- Strictly in order. -/
abbrev SS (l : List Int) : Prop := l.Pairwise (fun a b => a < b)
theorem putV_mem {z : Int} : ∀ {l : List Int} {n : Int}, z ∈ putV l n ↔ z = n ∨ z ∈ l
  | [], n => by simp [putV]
  | a :: l, n => by
    simp only [putV]
    split
    · simp only [List.mem_cons, putV_mem (l := l)]
      constructor
      · rintro (h | h | h)
        · exact .inr (.inl h)
        · exact .inl h
        · exact .inr (.inr h)
      · rintro (h | h | h)
        · exact .inr (.inl h)
        · exact .inl h
        · exact .inr (.inr h)
    · split
      · rename_i h; subst h; simp
      · simp only [List.mem_cons]
theorem putV_ss : ∀ {l : List Int} {n : Int}, SS l → SS (putV l n)
  | [], n, _ => by simp [putV, SS]
  | a :: l, n, h => by
    obtain ⟨h1, h2⟩ := List.pairwise_cons.1 h
    simp only [putV]
    split
    · refine List.pairwise_cons.2 ⟨fun b hb => ?_, putV_ss h2⟩
      rcases putV_mem.1 hb with rfl | hb
      · assumption
      · exact h1 b hb
    · split
      · exact h
      · refine List.pairwise_cons.2 ⟨fun b hb => ?_, h⟩
        rcases List.mem_cons.1 hb with rfl | hb
        · omega
        · have := h1 b hb; omega
theorem putV_at : ∀ {l : List Int} {n : Int} {k : Nat}, (∀ (j : Nat) (a : Int), j < k → l[j]? = some a → a < n) → k ≤ l.length → (∀ a, l[k]? = some a → n < a) → putV l n = l.take k ++ n :: l.drop k
  | [], n, k, _, hk, _ => by simp at hk; subst hk; rfl
  | a :: l, n, 0, _, _, h2 => by
    have := h2 a rfl
    simp only [putV, List.take_zero, List.drop_zero, List.nil_append]
    rw [if_neg (by omega), if_neg (by omega)]
  | a :: l, n, k + 1, h1, hk, h2 => by
    have := h1 0 a (by omega) rfl
    simp only [putV, List.take_succ_cons, List.drop_succ_cons, List.cons_append]
    rw [if_pos this, putV_at (k := k) (fun j b hj hb => h1 (j + 1) b (by omega) (by simpa using hb)) (by simpa using hk) (fun b hb => h2 b (by simpa using hb))]
theorem putV_is : ∀ {l : List Int} {n : Int} {k : Nat}, (∀ (j : Nat) (a : Int), j < k → l[j]? = some a → a < n) → l[k]? = some n → putV l n = l
  | [], n, k, _, h => by simp at h
  | a :: l, n, 0, _, h => by
    simp at h; subst h
    simp only [putV]
    rw [if_neg (by omega)]; simp
  | a :: l, n, k + 1, h1, h => by
    have := h1 0 a (by omega) rfl
    simp only [putV]
    rw [if_pos this, putV_is (k := k) (fun j b hj hb => h1 (j + 1) b (by omega) (by simpa using hb)) (by simpa using h)]
theorem putV_len : ∀ (l : List Int) (n : Int), (putV l n).length ≤ l.length + 1
  | [], n => by simp [putV]
  | a :: l, n => by
    simp only [putV]
    split
    · have := putV_len l n; simp only [List.length_cons]; omega
    · split <;> simp
/-- All put. -/
def putAll (zs : List Int) : List Int := zs.foldl putV []
theorem putAll_snoc (zs : List Int) (z : Int) : putAll (zs ++ [z]) = putV (putAll zs) z := by simp [putAll]
theorem putAll_ss_from : ∀ (zs l : List Int), SS l → SS (zs.foldl putV l)
  | [], l, h => h
  | z :: zs, l, h => putAll_ss_from zs _ (putV_ss h)
theorem putAll_mem_from {z : Int} : ∀ (zs l : List Int), z ∈ zs.foldl putV l ↔ z ∈ zs ∨ z ∈ l
  | [], l => by simp
  | y :: zs, l => by
    rw [List.foldl_cons, putAll_mem_from zs, putV_mem]; simp only [List.mem_cons]
    constructor
    · rintro (h | h | h)
      · exact .inl (.inr h)
      · exact .inl (.inl h)
      · exact .inr h
    · rintro ((h | h) | h)
      · exact .inr (.inl h)
      · exact .inl h
      · exact .inr (.inr h)
theorem putAll_ss (zs : List Int) : SS (putAll zs) := putAll_ss_from zs [] List.Pairwise.nil
theorem putAll_mem {z : Int} (zs : List Int) : z ∈ putAll zs ↔ z ∈ zs := by rw [putAll, putAll_mem_from]; simp
theorem putAll_len (zs : List Int) : (putAll zs).length ≤ zs.length := by
  have key : ∀ (zs l : List Int), (zs.foldl putV l).length ≤ zs.length + l.length := by
    intro zs
    induction zs with
    | nil => intro l; simp
    | cons z zs ih => intro l; have := ih (putV l z); have := putV_len l z; simp only [List.foldl_cons, List.length_cons]; omega
  have := key zs []
  simpa [putAll] using this
theorem ss_ext : ∀ {l m : List Int}, SS l → SS m → (∀ z, z ∈ l ↔ z ∈ m) → l = m
  | [], [], _, _, _ => rfl
  | [], b :: m, _, _, h => by have := (h b).2 (by simp); simp at this
  | a :: l, [], _, _, h => by have := (h a).1 (by simp); simp at this
  | a :: l, b :: m, h1, h2, h => by
    obtain ⟨a1, a2⟩ := List.pairwise_cons.1 h1
    obtain ⟨b1, b2⟩ := List.pairwise_cons.1 h2
    have hab : a = b := by
      have q1 := (h a).1 (by simp)
      have q2 := (h b).2 (by simp)
      rcases List.mem_cons.1 q1 with e | e
      · exact e
      · rcases List.mem_cons.1 q2 with e2 | e2
        · exact e2.symm
        · have := b1 a e; have := a1 b e2; omega
    subst hab
    rw [ss_ext a2 b2 fun z => ?_]
    have hz := h z
    constructor
    · intro q
      rcases List.mem_cons.1 (hz.1 (List.mem_cons_of_mem _ q)) with e | e
      · subst e; have := a1 z q; omega
      · exact e
    · intro q
      rcases List.mem_cons.1 (hz.2 (List.mem_cons_of_mem _ q)) with e | e
      · subst e; have := b1 z q; omega
      · exact e
/-- Sorted. -/
def srt (zs : List Int) : List Int := zs.mergeSort fun x y => decide (x ≤ y)
theorem srt_pw (zs : List Int) : (srt zs).Pairwise (fun a b => a ≤ b) := by
  have h := List.pairwise_mergeSort (le := fun (x y : Int) => decide (x ≤ y)) (fun a b c h1 h2 => by simp at *; omega) (fun a b => by simp; omega) zs
  exact h.imp (fun h => by simpa using h)
theorem srt_mem {z : Int} (zs : List Int) : z ∈ srt zs ↔ z ∈ zs := (List.mergeSort_perm zs _).mem_iff
theorem srt_len (zs : List Int) : (srt zs).length = zs.length := List.length_mergeSort _
theorem srt_nodup {zs : List Int} (h : zs.Nodup) : srt zs = putAll zs := by
  refine ss_ext ?_ (putAll_ss zs) (fun z => by rw [srt_mem, putAll_mem])
  have h1 := srt_pw zs
  have h2 : (srt zs).Nodup := (List.mergeSort_perm zs _).nodup_iff.2 h
  exact (h1.and h2).imp (fun ⟨a, b⟩ => by omega)
theorem compact_srt_key (d : Array Int) (hs : ∀ i j, i < j → j < d.size → d[i]! ≤ d[j]!) : ∀ m, m ≤ d.size → SS (compactUpTo d m) ∧ (∀ z, z ∈ compactUpTo d m ↔ ∃ j, j < m ∧ d[j]! = z)
  | 0, _ => by simp [compactUpTo, SS]
  | m + 1, hm => by
    obtain ⟨h1, h2⟩ := compact_srt_key d hs m (by omega)
    rw [compactUpTo_succ]
    by_cases hk : m = 0 ∨ d[m]! ≠ d[m - 1]!
    · have hk' : keeps d m = true := by simp [keeps, hk]
      rw [hk', if_pos rfl]
      refine ⟨List.pairwise_append.2 ⟨h1, by simp, fun a ha b hb => ?_⟩, fun z => ?_⟩
      · simp at hb; subst hb
        obtain ⟨j, hj, rfl⟩ := (h2 a).1 ha
        rcases hk with hk | hk
        · omega
        · have q1 := hs (m - 1) m (by omega) (by omega)
          rcases Nat.lt_or_ge j (m - 1) with hlt | hge
          · have := hs j (m - 1) hlt (by omega); omega
          · obtain rfl : j = m - 1 := by omega
            omega
      · rw [List.mem_append, h2]
        simp only [List.mem_singleton]
        constructor
        · rintro (⟨j, hj, e⟩ | e)
          · exact ⟨j, by omega, e⟩
          · exact ⟨m, by omega, e.symm⟩
        · rintro ⟨j, hj, e⟩
          rcases Nat.lt_or_ge j m with hlt | hge
          · exact .inl ⟨j, hlt, e⟩
          · obtain rfl : j = m := by omega
            exact .inr e.symm
    · have hk' : keeps d m = false := by simp only [keeps, hk]; rfl
      rw [hk']
      simp only [Bool.false_eq_true, if_false, List.append_nil]
      refine ⟨h1, fun z => ?_⟩
      have hm0 : m ≠ 0 := fun e => hk (.inl e)
      have he : d[m]! = d[m - 1]! := Classical.byContradiction fun e => hk (.inr e)
      rw [h2]
      constructor
      · rintro ⟨j, hj, e⟩; exact ⟨j, by omega, e⟩
      · rintro ⟨j, hj, e⟩
        rcases Nat.lt_or_ge j m with hlt | hge
        · exact ⟨j, hlt, e⟩
        · obtain rfl : j = m := by omega
          exact ⟨j - 1, by omega, by rw [← he]; exact e⟩
theorem compact_srt (zs : List Int) : compact (srt zs) = putAll zs := by
  have hs : ∀ i j, i < j → j < (srt zs).toArray.size → (srt zs).toArray[i]! ≤ (srt zs).toArray[j]! := by
    intro i j hij hj
    have hj' : j < (srt zs).length := by simpa using hj
    have := List.pairwise_iff_getElem.1 (srt_pw zs) i j (by omega) hj' hij
    rw [getElem!_pos _ i (by simpa using (by omega : i < (srt zs).length)), getElem!_pos _ j hj]
    simpa using this
  obtain ⟨h1, h2⟩ := compact_srt_key (srt zs).toArray hs (srt zs).length (by simp)
  refine ss_ext h1 (putAll_ss zs) fun z => ?_
  rw [compact, h2, putAll_mem, ← srt_mem zs, List.mem_iff_getElem]
  constructor
  · rintro ⟨j, hj, e⟩; exact ⟨j, hj, by rw [getElem!_pos _ j (by simpa using hj)] at e; simpa using e⟩
  · rintro ⟨j, hj, e⟩; exact ⟨j, hj, by rw [getElem!_pos _ j (by simpa using hj)]; simpa using e⟩
end Go.Proofs.YtehohkdipfphmaaDoor
