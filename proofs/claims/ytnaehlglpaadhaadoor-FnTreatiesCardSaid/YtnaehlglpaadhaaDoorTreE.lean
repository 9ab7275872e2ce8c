/- InForce and PartnersOf: the program's functions and the reference's return one value. -/
import Derived.Test.YtnaehlglpaadhaaDoorTreD
namespace Go.Proofs.YtnaehlglpaadhaaDoor
set_option linter.unusedVariables false
set_option linter.unusedSimpArgs false
open Go.RowKit

theorem info3 : (Tryd.prog.info? 3).map (fun i => (i.zero, i.size, i.bytes)) = some (some (.int .i64 0), 1, 8) := by kernel_rfl

theorem l25Asked_any (A : Option Addr) (n c : Nat) (xs : List R5) (a b day : Int) (w : World) (hn : xs.length = n) (hA : Rd w A (cells5 xs)) (h20 : n ≤ 1048576) :
    Calls Tryd.prog 56 #[.slice A n c, .int .i64 a, .int .i64 b, .int .i64 day] w (Ret (.bool (trL xs && (inR a 0 8 && (inR b 0 8 && (decide (a ≠ b) && inR day 0 4000))))) w) := by
  go_enter Tryd.func56, Tryd.ntmps56
  go_wp2_with fail
  refine (l25Good_any A n c xs _ hn hA h20).mono ?_
  rintro e w1 ⟨rfl, b1⟩
  go_wp2_with (first
    | (go_at_call 35; refine (l25Post_any _ _).mono ?_; rintro e w' ⟨rfl, rfl⟩)
    | (go_at_call 36; refine (l2Day_any _ _).mono ?_; rintro e w' ⟨rfl, rfl⟩))
  all_goals
    go_ret
    refine ⟨ret_bool ?_, b1⟩
    go_light
    grind

/-- What is asked of a list, two posts and a day. -/
def askB (xs : List R5) (a b day : Int) : Bool := trL xs && (inR a 0 8 && (inR b 0 8 && (decide (a ≠ b) && inR day 0 4000)))
theorem askB_yes {xs : List R5} {a b day : Int} (h : askB xs a b day = true) : trL xs = true ∧ (0 ≤ a ∧ a ≤ 8) ∧ (0 ≤ b ∧ b ≤ 8) ∧ a ≠ b ∧ (0 ≤ day ∧ day ≤ 4000) := by
  simp only [askB, Bool.and_eq_true, inR_true, decide_eq_true_eq] at h
  exact ⟨h.1, h.2.1, h.2.2.1, h.2.2.2.1, h.2.2.2.2⟩
def ifB (xs : List R5) (a b day : Int) : Bool := askB xs a b day && decide (0 ≤ atV xs a b day)
def ifV (xs : List R5) (a b day : Int) : Int := if ifB xs a b day then atV xs a b day else 0

set_option maxHeartbeats 2000000 in
theorem specInForce_any (A : Option Addr) (n c : Nat) (xs : List R5) (a b day : Int) (w : World) (hn : xs.length = n) (hA : Rd w A (cells5 xs)) (h20 : n ≤ 1048576) :
    Calls Tryd.prog 23 #[.slice A n c, .int .i64 a, .int .i64 b, .int .i64 day] w (Ret (.tuple #[.int .i64 (ifV xs a b day), .bool (ifB xs a b day)]) w) := by
  have C0 := Lib.hid (fun w h => l25Asked_any A n c xs a b day w hn h h20)
  have C1 := Lib.hid (fun w h => l25At_any A n c xs a b day w hn h h20)
  change Hid (∀ w h, Calls _ _ _ _ (Ret (.bool (askB xs a b day)) w)) at C0
  cases hB : askB xs a b day with
  | false =>
    rw [hB] at C0
    rw [show ifV xs a b day = 0 by simp [ifV, ifB, hB], show ifB xs a b day = false by simp [ifB, hB]]
    clear hB
    go_enter Tryd.func23, Tryd.ntmps23
    go_wp2_with fail
    refine (C0.out _ hA).mono ?_
    rintro e w1 ⟨rfl, b1⟩
    go_wp2
    go_ret2
    exact ⟨rfl, b1⟩
  | true =>
    rw [hB] at C0
    obtain ⟨q, hq⟩ : ∃ q, q = atV xs a b day := ⟨_, rfl⟩
    rw [← hq] at C1
    rw [show ifV xs a b day = if 0 ≤ q then q else 0 by simp [ifV, ifB, hB, hq], show ifB xs a b day = decide (0 ≤ q) by simp [ifB, hB, hq]]
    clear hB hq
    by_cases hlt : q < 0
    · rw [if_neg (by omega), show decide (0 ≤ q) = false by simp; omega]
      go_enter Tryd.func23, Tryd.ntmps23
      go_wp2_with fail
      refine (C0.out _ hA).mono ?_
      rintro e w1 ⟨rfl, b1⟩
      go_wp2_with fail
      refine (C1.out _ (hA.below b1)).mono ?_
      rintro e w2 ⟨rfl, b2⟩
      go_wp2
      go_ret2
      exact ⟨rfl, b1.trans (b2.mono b1.size)⟩
    · rw [if_pos (by omega), show decide (0 ≤ q) = true by simp; omega]
      go_enter Tryd.func23, Tryd.ntmps23
      go_wp2_with fail
      refine (C0.out _ hA).mono ?_
      rintro e w1 ⟨rfl, b1⟩
      go_wp2_with fail
      refine (C1.out _ (hA.below b1)).mono ?_
      rintro e w2 ⟨rfl, b2⟩
      go_wp2
      go_ret2
      exact ⟨rfl, b1.trans (b2.mono b1.size)⟩

set_option maxHeartbeats 2000000 in
theorem implInForce_any (A : Option Addr) (n c : Nat) (xs : List R5) (a b day : Int) (w : World) (hn : xs.length = n) (hA : Rd w A (cells5 xs)) (h20 : n ≤ 1048576) :
    Calls Tryd.prog 9 #[.slice A n c, .int .i64 a, .int .i64 b, .int .i64 day] w (Ret (.tuple #[.int .i64 (ifV xs a b day), .bool (ifB xs a b day)]) w) := by
  cases hB : askB xs a b day with
  | false =>
    rw [show ifV xs a b day = 0 by simp [ifV, ifB, hB], show ifB xs a b day = false by simp [ifB, hB]]
    go_enter Tryd.func9, Tryd.ntmps9
    go_wp2_with fail
    refine (areTreaties_any A n c xs _ hn hA h20).mono ?_
    rintro e w1 ⟨rfl, b1⟩
    go_wp2_with (first
      | (go_at_call 31; refine (isPost_any _ _).mono ?_; rintro e w' ⟨rfl, rfl⟩)
      | (go_at_call 32; refine (isDay_any _ _).mono ?_; rintro e w' ⟨rfl, rfl⟩)
      | fail)
    any_goals (go_ret2; exact ⟨rfl, b1⟩)
    all_goals (exfalso; go_light; grind [askB])
  | true =>
    obtain ⟨hv, ⟨a1, a2⟩, ⟨b1, b2⟩, hab, d1, d2⟩ := askB_yes hB
    have C0 := Lib.hid (fun w h => areTreaties_any A n c xs w hn h h20)
    have C1 := Lib.hid (fun w h => inForce_any A n c xs a b day w hn h hv)
    have C2 := Lib.hid (fun w => isPost_any a w)
    have C3 := Lib.hid (fun w => isPost_any b w)
    have C4 := Lib.hid (fun w => isDay_any day w)
    rw [hv] at C0
    rw [inR_true.2 ⟨a1, a2⟩] at C2
    rw [inR_true.2 ⟨b1, b2⟩] at C3
    rw [inR_true.2 ⟨d1, d2⟩] at C4
    have heq : (a == b) = false := by simp [hab]
    obtain ⟨q, hq⟩ : ∃ q, q = atV xs a b day := ⟨_, rfl⟩
    rw [← hq] at C1
    rw [show ifV xs a b day = if 0 ≤ q then q else 0 by simp [ifV, ifB, hB, hq], show ifB xs a b day = decide (0 ≤ q) by simp [ifB, hB, hq]]
    clear hB hq hv hab
    by_cases hlt : q < 0
    · have hlt' : ¬ 0 < q := by omega
      have hd : decide (0 ≤ q) = false := by simp; omega
      rw [if_neg (by omega), hd]
      go_enter Tryd.func9, Tryd.ntmps9
      go_wp2_with fail
      refine (C0.out _ hA).mono ?_
      rintro e w1 ⟨rfl, b1⟩
      go_wp2_with fail
      refine (C2.out _).mono ?_
      rintro e w' ⟨rfl, rfl⟩
      go_wp2_with fail
      refine (C3.out _).mono ?_
      rintro e w' ⟨rfl, rfl⟩
      go_wp2_with fail
      refine (C4.out _).mono ?_
      rintro e w' ⟨rfl, rfl⟩
      go_wp2_with fail
      refine (C1.out _ (hA.below b1)).mono ?_
      rintro e w2 ⟨rfl, b2⟩
      go_wp2
      go_ret2
      exact ⟨rfl, b1.trans (b2.mono b1.size)⟩
    · have hd : decide (0 ≤ q) = true := by simp; omega
      rw [if_pos (by omega), hd]
      rcases Int.lt_or_eq_of_le (show 0 ≤ q by omega) with h | h
      · go_enter Tryd.func9, Tryd.ntmps9
        go_wp2_with fail
        refine (C0.out _ hA).mono ?_
        rintro e w1 ⟨rfl, b1⟩
        go_wp2_with fail
        refine (C2.out _).mono ?_
        rintro e w' ⟨rfl, rfl⟩
        go_wp2_with fail
        refine (C3.out _).mono ?_
        rintro e w' ⟨rfl, rfl⟩
        go_wp2_with fail
        refine (C4.out _).mono ?_
        rintro e w' ⟨rfl, rfl⟩
        go_wp2_with fail
        refine (C1.out _ (hA.below b1)).mono ?_
        rintro e w2 ⟨rfl, b2⟩
        go_wp2
        go_ret2
        exact ⟨rfl, b1.trans (b2.mono b1.size)⟩
      · subst h
        clear hd hlt
        go_enter Tryd.func9, Tryd.ntmps9
        go_wp2_with fail
        refine (C0.out _ hA).mono ?_
        rintro e w1 ⟨rfl, b1⟩
        go_wp2_with fail
        refine (C2.out _).mono ?_
        rintro e w' ⟨rfl, rfl⟩
        go_wp2_with fail
        refine (C3.out _).mono ?_
        rintro e w' ⟨rfl, rfl⟩
        go_wp2_with fail
        refine (C4.out _).mono ?_
        rintro e w' ⟨rfl, rfl⟩
        go_wp2_with fail
        refine (C1.out _ (hA.below b1)).mono ?_
        rintro e w2 ⟨rfl, b2⟩
        go_wp2
        go_ret2
        exact ⟨rfl, b1.trans (b2.mono b1.size)⟩

/-! ### Partners -/
theorem posts_get {k : Nat} (h : k < 9) : posts[k]? = some (k : Int) := by
  have : k = 0 ∨ k = 1 ∨ k = 2 ∨ k = 3 ∨ k = 4 ∨ k = 5 ∨ k = 6 ∨ k = 7 ∨ k = 8 := by omega
  rcases this with rfl | rfl | rfl | rfl | rfl | rfl | rfl | rfl | rfl <;> rfl
theorem posts_take {k : Nat} (h : k < 9) : posts.take (k + 1) = posts.take k ++ [(k : Int)] := by
  rw [List.take_add_one, posts_get h]; rfl
def nbL (xs : List R5) (day u : Int) : List Int := posts.filter (adjT xs day u)
theorem nbL_len (xs : List R5) (day u : Int) : (nbL xs day u).length ≤ 9 := Nat.le_trans (List.length_filter_le _ _) (by simp [posts])
theorem mem_nbL {xs : List R5} (h : trL xs = true) {day u v : Int} : v ∈ nbL xs day u ↔ adjT xs day u v = true := by
  rw [nbL, List.mem_filter, mem_posts]
  exact ⟨fun h => h.2, fun h' => ⟨(graphT h day).rng v u (by rw [(graphT h day).sym]; exact h'), h'⟩⟩
/-- Of a loop over the nodes: those that were taken. -/
def FilRel (W : World) (E : Nat) (f : Int → Bool) (k : Nat) (v : Value) (wr : World) : Prop :=
  wr.ownsRow W.heap.size E 1 v ((posts.take k).filter f).length (cells1 ((posts.take k).filter f)) ∧ Below W.heap.size W wr
theorem filT_len (f : Int → Bool) (k : Nat) : ((posts.take k).filter f).length ≤ 9 := Nat.le_trans (List.length_filter_le _ _) (by rw [List.length_take]; simp [posts]; omega)
theorem FilRel.yes {W wr w1 w2 : World} {E : Nat} {f : Int → Bool} {k : Nat} {v v' : Value} (h : FilRel W E f k v wr) (hk : k < 9) (hf : f k = true) (hb : Below W.heap.size wr w1)
    (ho1 : w1.ownsRow W.heap.size E 1 v ((posts.take k).filter f).length (cells1 ((posts.take k).filter f))) (ho : w2.ownsRow W.heap.size E 1 v' (((posts.take k).filter f).length + 1) (cells1 ((posts.take k).filter f) ++ [.int .i64 k])) (hg : w1.grownBy w2 v.ownBlock) : FilRel W E f (k + 1) v' w2 := by
  obtain ⟨_, hB⟩ := h
  refine ⟨?_, (hB.trans hb).trans (below_app ho1 hg (hB.trans hb).size (Nat.le_refl _))⟩
  rw [posts_take hk, List.filter_append, List.length_append, cells1_append, show List.filter f [(k : Int)] = [(k : Int)] by simp [hf]]
  exact ho
theorem FilRel.no {W wr w1 : World} {E : Nat} {f : Int → Bool} {k : Nat} {v : Value} (h : FilRel W E f k v wr) (hk : k < 9) (hf : f k = false) (hb : Below wr.heap.size wr w1) : FilRel W E f (k + 1) v w1 := by
  obtain ⟨ho, hB⟩ := h
  refine ⟨?_, hB.trans (hb.mono hB.size)⟩
  rw [posts_take hk, List.filter_append, show List.filter f [(k : Int)] = [] by simp [hf], List.append_nil]
  exact own_below ho hb
theorem FilRel.done {W wr : World} {E : Nat} {f : Int → Bool} {k : Nat} {v : Value} (h : FilRel W E f k v wr) (hk : 9 ≤ k) : wr.ownsRow W.heap.size E 1 v (posts.filter f).length (cells1 (posts.filter f)) := by
  have := h.1
  rwa [List.take_of_length_le (by simp [posts]; omega)] at this

set_option maxHeartbeats 2000000 in
theorem l25Partners_any (A : Option Addr) (n c : Nat) (xs : List R5) (u day : Int) (w : World) (hn : xs.length = n) (hA : Rd w A (cells5 xs)) (h20 : n ≤ 1048576) :
    Calls Tryd.prog 37 #[.slice A n c, .int .i64 u, .int .i64 day] w (RetOwn 3 1 (nbL xs day u).length (cells1 (nbL xs day u)) w) := by
  have HE := Lib.hid (own_empty w w.heap.size 3 1 (Nat.le_refl _))
  go_enter Tryd.func37, Tryd.ntmps37
  go_wp2_with fail
  go_loopw [7, 8] (fun v i wr => ∃ (k : Nat), k ≤ 9 ∧ i = .int .i64 k ∧ FilRel w 3 (adjT xs day u) k v wr) (fun _ i _ => 9 - (intOf i).toNat)
  case atStart => exact ⟨0, by omega, rfl, HE.out, (Below.refl _ _).alloc (Nat.le_refl _) _⟩
  case round =>
    obtain ⟨k, hk, rfl, hrel⟩ := hrel
    have HR := Lib.hid hrel
    obtain ⟨ho, hb⟩ := hrel
    by_cases hlt : k < 9
    · have hlen := filT_len (adjT xs day u) k
      have HO := Lib.hid ho
      clear ho
      go_wp2_with fail
      refine (l25At_any A n c xs u k day _ hn (hA.below hb) h20).mono ?_
      rintro e w1 ⟨rfl, b1⟩
      have HO1 := Lib.hid (own_below HO.out b1)
      have HO2 := Lib.hid (fun o => HO1.out.alloc o)
      have hs1 := (hb.trans (b1.mono hb.size)).size
      obtain ⟨q, hq⟩ : ∃ q, q = atV xs u k day := ⟨_, rfl⟩
      rw [← hq]
      have HQ := Lib.hid hq
      clear hq hA
      by_cases hge : 0 ≤ q
      · have hf : adjT xs day u k = true := by unfold adjT; rw [← HQ.out]; simp [hge]
        have HF := Lib.hid hf
        clear hf
        go_wp2_with (at_builtin; go_must (refine wpList_app _ rfl (.tmp 20) (.tmp 22) 27 rfl w.heap.size 3 _ 1 8 Tryd.underlying27 info3 rfl (by omega) _ _ _ rfl (HO2.out _) _ 1 1 [.int .i64 k] rfl rfl (rd_new #[.int .i64 k] 3 (by simp)) (oneCell_ints [(k : Int)]) (by unfold maxLen; omega) (by omega) (by simp; omega) ?_); intro v' w' o' g' d')
        have R2 := Lib.hid (HR.out.yes hlt HF.out ((b1.mono hb.size).alloc hs1 _) (HO2.out _) o' g')
        go_roundw
        case rel => exact ⟨k + 1, by omega, by go_num, R2.out⟩
        case measure => simp [intOf]; omega
      · have hf : adjT xs day u k = false := by unfold adjT; rw [← HQ.out]; simp; omega
        have HF := Lib.hid hf
        clear hf
        go_wp2
        have R2 := Lib.hid (HR.out.no hlt HF.out b1)
        go_roundw
        case rel => exact ⟨k + 1, by omega, by go_num, R2.out⟩
        case measure => simp [intOf]; omega
    · go_wp2
      go_ret
      exact ⟨_, rfl, HR.out.done (by omega), hb⟩

set_option maxHeartbeats 2000000 in
theorem partnersOf_any (A : Option Addr) (n c : Nat) (xs : List R5) (u day : Int) (w : World) (hn : xs.length = n) (hA : Rd w A (cells5 xs)) (hv : trL xs = true) :
    Calls Tryd.prog 33 #[.slice A n c, .int .i64 u, .int .i64 day] w (RetOwn 3 1 (nbL xs day u).length (cells1 (nbL xs day u)) w) := by
  have HV := Lib.hid hv
  clear hv
  go_enter Tryd.func33, Tryd.ntmps33
  go_wp2_with fail
  go_loopw [7, 9, 8] (fun v i _ wr => ∃ (k : Nat), k ≤ 9 ∧ i = .int .i64 k ∧ FilRel w 3 (adjT xs day u) k v wr) (fun _ i _ _ => 9 - (intOf i).toNat)
  case atStart => exact ⟨0, by omega, rfl, World.ownsRow_nil _ _ _ _, Below.refl _ _⟩
  case round =>
    obtain ⟨k, hk, rfl, hrel⟩ := hrel
    have HR := Lib.hid hrel
    obtain ⟨ho, hb⟩ := hrel
    by_cases hlt : k < 9
    · have hlen := filT_len (adjT xs day u) k
      have HO := Lib.hid ho
      clear ho
      by_cases hku : (k : Int) = u
      · have hf : adjT xs day u k = false := by rw [hku]; exact adjT_irr HV.out day u
        have HF := Lib.hid hf
        have hne : ((k : Int) != u) = false := by simp [hku]
        clear hf hku
        go_wp2_with fail
        have R2 := Lib.hid (HR.out.no hlt HF.out (Below.refl _ _))
        go_roundw
        case rel => exact ⟨k + 1, by omega, by go_num, R2.out⟩
        case measure => simp [intOf]; omega
      · have hne : ((k : Int) != u) = true := by simp [hku]
        clear hku
        go_wp2_with fail
        refine (inForce_any A n c xs u k day _ hn (hA.below hb) HV.out).mono ?_
        rintro e w1 ⟨rfl, b1⟩
        have HO1 := Lib.hid (own_below HO.out b1)
        have HO2 := Lib.hid (fun o => HO1.out.alloc o)
        have hs1 := (hb.trans (b1.mono hb.size)).size
        obtain ⟨q, hq⟩ : ∃ q, q = atV xs u k day := ⟨_, rfl⟩
        rw [← hq]
        have HQ := Lib.hid hq
        clear hq hA
        by_cases hge : 0 ≤ q
        · have hf : adjT xs day u k = true := by unfold adjT; rw [← HQ.out]; simp [hge]
          have HF := Lib.hid hf
          clear hf
          go_wp2_with (at_builtin; go_must (refine wpList_app _ rfl (.tmp 23) (.tmp 25) 27 rfl w.heap.size 3 _ 1 8 Tryd.underlying27 info3 rfl (by omega) _ _ _ rfl (HO2.out _) _ 1 1 [.int .i64 k] rfl rfl (rd_new #[.int .i64 k] 3 (by simp)) (oneCell_ints [(k : Int)]) (by unfold maxLen; omega) (by omega) (by simp; omega) ?_); intro v' w' o' g' d')
          have R2 := Lib.hid (HR.out.yes hlt HF.out ((b1.mono hb.size).alloc hs1 _) (HO2.out _) o' g')
          go_roundw
          case rel => exact ⟨k + 1, by omega, by go_num, R2.out⟩
          case measure => simp [intOf]; omega
        · have hf : adjT xs day u k = false := by unfold adjT; rw [← HQ.out]; simp; omega
          have HF := Lib.hid hf
          clear hf
          go_wp2
          have R2 := Lib.hid (HR.out.no hlt HF.out b1)
          go_roundw
          case rel => exact ⟨k + 1, by omega, by go_num, R2.out⟩
          case measure => simp [intOf]; omega
    · go_wp2
      go_ret
      exact ⟨_, rfl, HR.out.done (by omega), hb⟩

def paB (xs : List R5) (u day : Int) : Bool := trL xs && (inR u 0 8 && inR day 0 4000)
def paV (xs : List R5) (u day : Int) : List Int := if paB xs u day then nbL xs day u else []
theorem pa_len (xs : List R5) (u day : Int) : (paV xs u day).length ≤ 9 := by
  unfold paV; split
  · exact nbL_len _ _ _
  · simp

set_option maxHeartbeats 2000000 in
theorem implPartnersOf_any (A : Option Addr) (n c : Nat) (xs : List R5) (u day : Int) (w : World) (hn : xs.length = n) (hA : Rd w A (cells5 xs)) (h20 : n ≤ 1048576) :
    Calls Tryd.prog 6 #[.slice A n c, .int .i64 u, .int .i64 day] w (RetOwnB 3 1 (paV xs u day).length (cells1 (paV xs u day)) (paB xs u day) w) := by
  cases hB : paB xs u day with
  | false =>
    rw [show paV xs u day = [] by simp [paV, hB]]
    go_enter Tryd.func6, Tryd.ntmps6
    go_wp2_with fail
    refine (areTreaties_any A n c xs _ hn hA h20).mono ?_
    rintro e w1 ⟨rfl, b1⟩
    go_wp2_with (first
      | (go_at_call 31; refine (isPost_any _ _).mono ?_; rintro e w' ⟨rfl, rfl⟩)
      | (go_at_call 32; refine (isDay_any _ _).mono ?_; rintro e w' ⟨rfl, rfl⟩)
      | fail)
    any_goals (go_ret2; exact ⟨_, rfl, World.ownsRow_nil _ _ _ _, b1⟩)
    all_goals (exfalso; go_light; grind [paB])
  | true =>
    have hB' := hB
    simp only [paB, Bool.and_eq_true] at hB'
    obtain ⟨hv, hu, hd⟩ := hB'
    have C0 := Lib.hid (fun w h => areTreaties_any A n c xs w hn h h20)
    have C1 := Lib.hid (fun w => isPost_any u w)
    have C2 := Lib.hid (fun w => isDay_any day w)
    have C3 := Lib.hid (fun w h => partnersOf_any A n c xs u day w hn h hv)
    rw [hv] at C0
    rw [hu] at C1
    rw [hd] at C2
    rw [show paV xs u day = nbL xs day u by simp [paV, hB]]
    clear hB hv hu hd
    go_enter Tryd.func6, Tryd.ntmps6
    go_wp2_with fail
    refine (C0.out _ hA).mono ?_
    rintro e w1 ⟨rfl, b1⟩
    go_wp2_with fail
    refine (C1.out _).mono ?_
    rintro e w' ⟨rfl, rfl⟩
    go_wp2_with fail
    refine (C2.out _).mono ?_
    rintro e w' ⟨rfl, rfl⟩
    go_wp2_with fail
    refine (C3.out _ (hA.below b1)).mono ?_
    rintro e w3 ⟨v3, rfl, o3, b3⟩
    go_wp2
    go_ret2
    exact ⟨_, rfl, own_mono o3 b1.size, b1.trans (b3.mono b1.size)⟩

set_option maxHeartbeats 2000000 in
theorem specPartnersOf_any (A : Option Addr) (n c : Nat) (xs : List R5) (u day : Int) (w : World) (hn : xs.length = n) (hA : Rd w A (cells5 xs)) (h20 : n ≤ 1048576) :
    Calls Tryd.prog 7 #[.slice A n c, .int .i64 u, .int .i64 day] w (RetOwnB 3 1 (paV xs u day).length (cells1 (paV xs u day)) (paB xs u day) w) := by
  cases hB : paB xs u day with
  | false =>
    rw [show paV xs u day = [] by simp [paV, hB]]
    go_enter Tryd.func7, Tryd.ntmps7
    go_wp2_with fail
    refine (l25Good_any A n c xs _ hn hA h20).mono ?_
    rintro e w1 ⟨rfl, b1⟩
    go_wp2_with (first
      | (go_at_call 35; refine (l25Post_any _ _).mono ?_; rintro e w' ⟨rfl, rfl⟩)
      | (go_at_call 36; refine (l2Day_any _ _).mono ?_; rintro e w' ⟨rfl, rfl⟩)
      | fail)
    any_goals (go_ret2; exact ⟨_, rfl, own_empty _ _ _ _ b1.size, b1.alloc b1.size _⟩)
    all_goals (exfalso; go_light; grind [paB])
  | true =>
    have hB' := hB
    simp only [paB, Bool.and_eq_true] at hB'
    obtain ⟨hv, hu, hd⟩ := hB'
    have C0 := Lib.hid (fun w h => l25Good_any A n c xs w hn h h20)
    have C1 := Lib.hid (fun w => l25Post_any u w)
    have C2 := Lib.hid (fun w => l2Day_any day w)
    have C3 := Lib.hid (fun w h => l25Partners_any A n c xs u day w hn h h20)
    rw [hv] at C0
    rw [hu] at C1
    rw [hd] at C2
    rw [show paV xs u day = nbL xs day u by simp [paV, hB]]
    clear hB hv hu hd
    go_enter Tryd.func7, Tryd.ntmps7
    go_wp2_with fail
    refine (C0.out _ hA).mono ?_
    rintro e w1 ⟨rfl, b1⟩
    go_wp2_with fail
    refine (C1.out _).mono ?_
    rintro e w' ⟨rfl, rfl⟩
    go_wp2_with fail
    refine (C2.out _).mono ?_
    rintro e w' ⟨rfl, rfl⟩
    go_wp2_with fail
    refine (C3.out _ (hA.below b1)).mono ?_
    rintro e w3 ⟨v3, rfl, o3, b3⟩
    go_wp2
    go_ret2
    exact ⟨_, rfl, own_mono o3 b1.size, b1.trans (b3.mono b1.size)⟩
end Go.Proofs.YtnaehlglpaadhaaDoor
