/- Groups of posts: plain law. The groups by reach; what the reference keeps of known posts, what the program's search keeps. -/
import Derived.Test.YtnaehlglpaadhaaDoorTreI
import Derived.Test.YtnaehlglpaadhaaDoorPutV
namespace Go.Proofs.YtnaehlglpaadhaaDoor
set_option linter.unusedVariables false
set_option linter.unusedSimpArgs false
open Go.RowKit

noncomputable def grpV (xs : List R5) (day a : Int) : List Int := posts.filter (fun b => chB xs a b day)
noncomputable def fstB (xs : List R5) (day a : Int) : Bool := posts.all (fun b => !(decide (b < a) && chB xs b a day))
noncomputable def grpsN (xs : List R5) (day : Int) (k : Nat) : List (List Int) := ((posts.take k).filter (fstB xs day)).map (grpV xs day)
/-- A post is in the group of an earlier one than k. -/
def KnV (xs : List R5) (day : Int) (k : Nat) (z : Int) : Prop := ∃ a : Nat, a < k ∧ a < 9 ∧ Reach (adjT xs day) a z
theorem mem_grpV {xs : List R5} {day a z : Int} : z ∈ grpV xs day a ↔ (0 ≤ z ∧ z ≤ 8) ∧ Reach (adjT xs day) a z := by
  rw [grpV, List.mem_filter, mem_posts, chB_reach]
theorem posts_ss : SS posts := by unfold posts SS; decide
theorem grpV_ss (xs : List R5) (day a : Int) : SS (grpV xs day a) := List.Pairwise.sublist List.filter_sublist posts_ss
theorem grpV_len (xs : List R5) (day a : Int) : (grpV xs day a).length ≤ 9 := Nat.le_trans (List.length_filter_le _ _) (by simp [posts])
theorem reach_rng {xs : List R5} {day a z : Int} (h : Reach (adjT xs day) a z) : 0 ≤ z ∧ z ≤ 8 := by
  obtain ⟨R, hR⟩ := h
  obtain ⟨r, rfl⟩ := hR.form
  exact hR.inP.head
theorem reach_self {xs : List R5} {day : Int} {k : Nat} (h : k < 9) : Reach (adjT xs day) k k := ⟨_, path_one (by omega)⟩
theorem Path.joinR {adj : Int → Int → Bool} {a b : Int} (G : Graph adj) : ∀ {S : List Int} {c : Int}, Reach adj a b → Path adj b c S → Reach adj a c
  | [], c, _, hS => by have := hS.first; simp at this
  | [x], c, h, hS => by
    have hx := hS.first; simp at hx; subst hx
    have := path_one_eq hS; subst this; exact h
  | x :: u :: r, c, h, hS => by
    have hx := hS.first; simp at hx; subst hx
    obtain ⟨hu, hadj⟩ := hS.tail
    obtain ⟨R, hR⟩ := Path.joinR G h hu
    exact ⟨_, hR.cons G (by rw [G.sym]; exact hadj)⟩
theorem Reach.trans {adj : Int → Int → Bool} {a b c : Int} (G : Graph adj) (h : Reach adj a b) (k : Reach adj b c) : Reach adj a c := by
  obtain ⟨S, hS⟩ := k
  exact Path.joinR G h hS
theorem fst_true {xs : List R5} (h : trL xs = true) {day : Int} {k : Nat} (hk : k < 9) : fstB xs day k = true ↔ ¬ KnV xs day k k := by
  unfold fstB KnV
  rw [List.all_eq_true]
  constructor
  · rintro h1 ⟨a, h2, h3, h4⟩
    have := h1 a (mem_posts.2 (by omega))
    simp only [Bool.not_eq_true', Bool.and_eq_false_iff, decide_eq_false_iff_not] at this
    rcases this with h5 | h5
    · omega
    · rw [chB_reach.2 h4] at h5; cases h5
  · intro h1 b hb
    have hb := mem_posts.1 hb
    simp only [Bool.not_eq_true', Bool.and_eq_false_iff, decide_eq_false_iff_not]
    by_cases hlt : b < k
    · right
      cases hc : chB xs b k day with
      | false => rfl
      | true =>
        refine absurd ⟨b.toNat, by omega, by omega, ?_⟩ h1
        rw [Int.toNat_of_nonneg hb.1]
        exact chB_reach.1 hc
    · exact .inl hlt
theorem KnV.zero (xs : List R5) (day z : Int) : ¬ KnV xs day 0 z := by rintro ⟨a, h, _⟩; omega
theorem KnV.succ {xs : List R5} {day z : Int} {k : Nat} (hk : k < 9) : KnV xs day (k + 1) z ↔ KnV xs day k z ∨ z ∈ grpV xs day k := by
  rw [mem_grpV]
  constructor
  · rintro ⟨a, h1, h2, h3⟩
    by_cases h : a < k
    · exact .inl ⟨a, h, h2, h3⟩
    · obtain rfl : a = k := by omega
      exact .inr ⟨reach_rng h3, h3⟩
  · rintro (⟨a, h1, h2, h3⟩ | ⟨h1, h2⟩)
    · exact ⟨a, by omega, h2, h3⟩
    · exact ⟨k, by omega, hk, h2⟩
theorem KnV.skip {xs : List R5} (h : trL xs = true) {day z : Int} {k : Nat} (hk : KnV xs day k k) : KnV xs day (k + 1) z ↔ KnV xs day k z := by
  constructor
  · rintro ⟨a, h1, h2, h3⟩
    by_cases ha : a < k
    · exact ⟨a, ha, h2, h3⟩
    · obtain rfl : a = k := by omega
      obtain ⟨b, g1, g2, g3⟩ := hk
      exact ⟨b, g1, g2, g3.trans (graphT h day) h3⟩
  · rintro ⟨a, h1, h2, h3⟩
    exact ⟨a, by omega, h2, h3⟩
theorem KnV.apart {xs : List R5} (h : trL xs = true) {day z : Int} {k : Nat} (hk : ¬ KnV xs day k k) (hz : KnV xs day k z) : ¬ Reach (adjT xs day) k z := by
  intro hr
  obtain ⟨b, g1, g2, g3⟩ := hz
  exact hk ⟨b, g1, g2, g3.trans (graphT h day) (hr.sym (graphT h day))⟩
theorem grpsN_yes {xs : List R5} {day : Int} {k : Nat} (hk : k < 9) (h : fstB xs day k = true) : grpsN xs day (k + 1) = grpsN xs day k ++ [grpV xs day k] := by
  unfold grpsN
  rw [posts_take hk, List.filter_append, List.map_append]
  simp [List.filter_cons, h]
theorem grpsN_no {xs : List R5} {day : Int} {k : Nat} (hk : k < 9) (h : fstB xs day k = false) : grpsN xs day (k + 1) = grpsN xs day k := by
  unfold grpsN
  rw [posts_take hk, List.filter_append, List.map_append]
  simp [List.filter_cons, h]
theorem grpsN_len (xs : List R5) (day : Int) (k : Nat) : (grpsN xs day k).length ≤ 9 := by
  unfold grpsN
  rw [List.length_map]
  refine Nat.le_trans (List.length_filter_le _ _) ?_
  rw [List.length_take]; simp [posts]; omega
theorem grpsN_in {xs : List R5} {day : Int} {k : Nat} : ∀ x ∈ grpsN xs day k, x.length ≤ 9 := by
  intro x hx
  unfold grpsN at hx
  obtain ⟨a, _, rfl⟩ := List.mem_map.1 hx
  exact grpV_len xs day a

/-! ### The program's search -/
def bAt (S : List Bool) (z : Int) : Bool := S.getD z.toNat false
theorem bAt_set {S : List Bool} {u v : Int} (hS : S.length = 9) (hu : 0 ≤ u ∧ u ≤ 8) (hv : 0 ≤ v ∧ v ≤ 8) : bAt (S.set u.toNat true) v = if v = u then true else bAt S v := by
  unfold bAt
  rw [List.getD_eq_getElem?_getD, List.getElem?_set, List.getD_eq_getElem?_getD]
  by_cases h : v = u
  · subst h; rw [if_pos rfl, if_pos (by omega), if_pos rfl]; rfl
  · rw [if_neg (by omega), if_neg h]
/-- In the midst of a search from f: the queue's first q are done, of the next one the partners in 'done'. -/
structure GInv (adj : Int → Int → Bool) (f : Int) (K : Int → Prop) (G : List Int) (S : List Bool) (q : Nat) (done : List Int) : Prop where
  size : S.length = 9
  mem : ∀ z ∈ G, (0 ≤ z ∧ z ≤ 8) ∧ Reach adj f z
  nodup : G.Nodup
  seen : ∀ z, 0 ≤ z → z ≤ 8 → (bAt S z = true ↔ K z ∨ z ∈ G)
  first : f ∈ G
  closed : ∀ (i : Nat) (x : Int), i < q → G[i]? = some x → ∀ y, adj x y = true → K y ∨ y ∈ G
  now : ∀ y ∈ done, K y ∨ y ∈ G
namespace GInv
variable {adj : Int → Int → Bool} {f : Int} {K : Int → Prop} {G : List Int} {S : List Bool} {q : Nat} {done : List Int}
theorem start (hf : 0 ≤ f ∧ f ≤ 8) (hS : S.length = 9) (hs : ∀ z, 0 ≤ z → z ≤ 8 → (bAt S z = true ↔ K z)) : GInv adj f K [f] (S.set f.toNat true) 0 [] where
  size := by simpa using hS
  mem := fun z hz => by simp at hz; subst hz; exact ⟨hf, ⟨_, path_one hf⟩⟩
  nodup := by simp
  seen := fun z h1 h2 => by
    rw [bAt_set hS hf ⟨h1, h2⟩]
    by_cases h : z = f
    · simp [h]
    · rw [if_neg h, hs z h1 h2]; simp [h]
  first := by simp
  closed := fun i x hi => by omega
  now := fun y hy => by simp at hy
theorem len (h : GInv adj f K G S q done) : G.length ≤ 9 := nodup_len h.nodup (fun z hz => (h.mem z hz).1)
theorem skip (h : GInv adj f K G S q done) {p : Int} (hp : 0 ≤ p ∧ p ≤ 8) (hs : bAt S p = true) : GInv adj f K G S q (done ++ [p]) :=
  ⟨h.size, h.mem, h.nodup, h.seen, h.first, h.closed, fun y hy => by
    rcases List.mem_append.1 hy with hy | hy
    · exact h.now y hy
    · simp at hy; subst hy; exact (h.seen y hp.1 hp.2).1 hs⟩
theorem push (h : GInv adj f K G S q done) (Gr : Graph adj) {x p : Int} (hx : G[q]? = some x) (hadj : adj x p = true) (hp : 0 ≤ p ∧ p ≤ 8) (hs : bAt S p = false) : GInv adj f K (G ++ [p]) (S.set p.toNat true) q (done ++ [p]) where
  size := by simpa using h.size
  mem := fun z hz => by
    rcases List.mem_append.1 hz with hz | hz
    · exact h.mem z hz
    · simp at hz; subst hz
      obtain ⟨R, hR⟩ := (h.mem x (List.mem_of_getElem? hx)).2
      exact ⟨hp, _, hR.cons Gr hadj⟩
  nodup := by
    refine List.nodup_append.2 ⟨h.nodup, by simp, fun a ha b hb e => ?_⟩
    simp at hb; subst hb; subst e
    have := (h.seen a hp.1 hp.2).2 (.inr ha)
    rw [hs] at this; cases this
  seen := fun z h1 h2 => by
    rw [bAt_set h.size hp ⟨h1, h2⟩]
    by_cases e : z = p
    · simp [e]
    · rw [if_neg e, h.seen z h1 h2]; simp [e]
  first := List.mem_append_left _ h.first
  closed := fun i y hi hy u hu => by
    have hq := (List.getElem?_eq_some_iff.1 hx).1
    rw [List.getElem?_append_left (by omega)] at hy
    rcases h.closed i y hi hy u hu with h1 | h1
    · exact .inl h1
    · exact .inr (List.mem_append_left _ h1)
  now := fun y hy => by
    rcases List.mem_append.1 hy with hy | hy
    · rcases h.now y hy with h1 | h1
      · exact .inl h1
      · exact .inr (List.mem_append_left _ h1)
    · exact .inr (List.mem_append_right _ hy)
theorem next (h : GInv adj f K G S q done) {x : Int} (hx : G[q]? = some x) (hd : ∀ y, adj x y = true → y ∈ done) : GInv adj f K G S (q + 1) [] :=
  ⟨h.size, h.mem, h.nodup, h.seen, h.first, fun i y hi hy u hu => by
    by_cases e : i = q
    · subst e; rw [hx] at hy; injection hy with hy; subst hy
      exact h.now u (hd u hu)
    · exact h.closed i y (by omega) hy u hu, fun y hy => by simp at hy⟩
theorem all (h : GInv adj f K G S q done) (Gr : Graph adj) (hq : G.length ≤ q) (hK : ∀ z, K z → ¬ Reach adj f z) : ∀ {R : List Int} {z : Int}, Path adj f z R → z ∈ G
  | [], z, hR => by have := hR.first; simp at this
  | [x], z, hR => by
    have hx := hR.first; simp at hx; subst hx
    have := path_one_eq hR; subst this; exact h.first
  | x :: u :: r, z, hR => by
    have hx := hR.first; simp at hx; subst hx
    obtain ⟨hu, hadj⟩ := hR.tail
    obtain ⟨i, hi⟩ := mem_at (h.all Gr hq hK hu)
    have hil := (List.getElem?_eq_some_iff.1 hi).1
    rcases h.closed i u (by omega) hi x (by rw [Gr.sym]; exact hadj) with h1 | h1
    · exact absurd ⟨_, hR⟩ (hK x h1)
    · exact h1
end GInv
theorem srt_grp {xs : List R5} (h : trL xs = true) {day : Int} {k q : Nat} {G : List Int} {S : List Bool} {done : List Int} (hi : GInv (adjT xs day) k (KnV xs day k) G S q done) (hq : G.length ≤ q) (hk : ¬ KnV xs day k k) : srt G = grpV xs day k := by
  rw [srt_nodup hi.nodup]
  refine ss_ext (putAll_ss G) (grpV_ss xs day k) (fun z => ?_)
  rw [putAll_mem, mem_grpV]
  exact ⟨fun hz => hi.mem z hz, fun ⟨_, R, hR⟩ => hi.all (graphT h day) hq (fun z hz => KnV.apart h hk hz) hR⟩
theorem seen_next {xs : List R5} (h : trL xs = true) {day : Int} {k q : Nat} {G : List Int} {S : List Bool} {done : List Int} (hi : GInv (adjT xs day) k (KnV xs day k) G S q done) (hq : G.length ≤ q) (hk9 : k < 9) (hk : ¬ KnV xs day k k) :
    ∀ z, 0 ≤ z → z ≤ 8 → (bAt S z = true ↔ KnV xs day (k + 1) z) := by
  intro z h1 h2
  rw [hi.seen z h1 h2, KnV.succ hk9, ← srt_grp h hi hq hk, srt_mem]

/-! ### The value -/
def gpB (xs : List R5) (day : Int) : Bool := trL xs && inR day 0 4000
noncomputable def gpV (xs : List R5) (day : Int) : List (List Int) := if gpB xs day = true then grpsN xs day 9 else []
theorem gp_len (xs : List R5) (day : Int) : (gpV xs day).length ≤ 9 := by
  unfold gpV; split
  · exact grpsN_len xs day 9
  · simp
theorem gp_in {xs : List R5} {day : Int} : ∀ x ∈ gpV xs day, x.length ≤ 9 := by
  unfold gpV; split
  · exact grpsN_in
  · intro x hx; simp at hx
theorem gp_no {xs : List R5} {day : Int} (h : gpB xs day = false) : gpV xs day = [] := by simp [gpV, h]
theorem gp_yes {xs : List R5} {day : Int} (h : gpB xs day = true) : gpV xs day = grpsN xs day 9 := by simp [gpV, h]
/-- The groups hold all posts. -/
theorem grps_cover {xs : List R5} (h : trL xs = true) (day : Int) : ∀ k : Nat, k ≤ 9 → ∃ l : List Int, l.Nodup ∧ (∀ z, z ∈ l ↔ KnV xs day k z) ∧ ((grpsN xs day k).map List.length).sum = l.length
  | 0, _ => ⟨[], by simp, fun z => by simp [KnV.zero], by simp [grpsN]⟩
  | k + 1, hk => by
    obtain ⟨l, h1, h2, h3⟩ := grps_cover h day k (by omega)
    cases hf : fstB xs day k with
    | true =>
      have hn := (fst_true h (by omega)).1 hf
      refine ⟨l ++ grpV xs day k, List.nodup_append.2 ⟨h1, (grpV_ss xs day k).imp (fun h => by omega), fun a ha b hb e => ?_⟩, fun z => ?_, ?_⟩
      · subst e
        exact KnV.apart h hn ((h2 a).1 ha) (mem_grpV.1 hb).2
      · rw [List.mem_append, h2, KnV.succ (by omega)]
      · rw [grpsN_yes (by omega) hf, List.map_append, List.sum_append, h3]; simp
    | false =>
      have hn : KnV xs day k k := by
        apply Classical.byContradiction
        intro hn
        rw [(fst_true h (by omega)).2 hn] at hf; cases hf
      refine ⟨l, h1, fun z => ?_, ?_⟩
      · rw [h2, KnV.skip h hn]
      · rw [grpsN_no (by omega) hf, h3]
theorem gp_sum {xs : List R5} {day : Int} (h : gpB xs day = true) : ((gpV xs day).map List.length).sum = 9 := by
  rw [gp_yes h]
  simp only [gpB, Bool.and_eq_true] at h
  obtain ⟨l, h1, h2, h3⟩ := grps_cover h.1 day 9 (Nat.le_refl _)
  rw [h3]
  have a1 : l.length ≤ 9 := nodup_len h1 (fun z hz => by obtain ⟨a, _, _, hr⟩ := (h2 z).1 hz; exact reach_rng hr)
  have a2 : posts.length ≤ l.length := len_of_nodup posts l (by unfold posts; decide) (fun z hz => (h2 z).2 (by
    have := mem_posts.1 hz
    refine ⟨z.toNat, by omega, by omega, ?_⟩
    rw [Int.toNat_of_nonneg this.1]
    exact ⟨_, path_one this⟩))
  simp [posts] at a2
  omega
end Go.Proofs.YtnaehlglpaadhaaDoor
