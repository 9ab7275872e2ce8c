/- BookText of the program. -/
import Derived.Test.YtacacibpehnmgaaGreatDoorTBk
namespace Go.Proofs.YtacacibpehnmgaaGreatDoor
set_option linter.unusedVariables false
set_option linter.unusedSimpArgs false
open Go.RowKit

set_option maxRecDepth 20000 in
set_option maxHeartbeats 4000000 in
theorem implBookText_any (A : Option Addr) (n c : Nat) (xs : List BR) (w : World) (hn : xs.length = n) (hA : RdB w A xs) (h20 : n ≤ 1048576) (hw : ∀ x ∈ xs, x.ws.length ≤ 1048576) (ht : ∀ w', Below w.heap.size w w' → Lib.TabIs Tryz.prog w' "internal/strconv.uint64pow10" .u64 Lib.pow10Tab) :
    Calls Tryz.prog 23 #[.slice A n c] w (Ret (.tuple #[.string (bkV xs), .bool (bookB xs)]) w) := by
  have C0 := Lib.hid (isStockBook_any A n c xs w hn hA (by omega) (fun x hx => by have := hw x hx; omega))
  have HA := Lib.hid hA
  have HT := Lib.hid ht
  clear hA ht
  cases hv : bookB xs with
  | false =>
    rw [hv] at C0
    have HV := Lib.hid (show bkV xs = ⟨#[]⟩ by rw [bkV, hv]; rfl)
    clear hv
    go_enter Tryz.func23, Tryz.ntmps23
    go_wp2_with fail
    refine C0.out.mono ?_
    rintro e w1 ⟨rfl, b1⟩
    go_wp2
    go_ret2
    exact ⟨by first | (rw [HV.out]; done) | (rw [HV.out]; rfl), b1⟩
  | true =>
    rw [hv] at C0
    have HV := Lib.hid (show bkV xs = bkP xs xs.length by rw [bkV, hv]; rfl)
    have HR := Lib.hid (fun k x (h : xs[k]? = some x) => bookB_row hv h)
    have HP := Lib.hid (bkP_size hv)
    have h8 := (bookB_yes hv).2
    have HN := Lib.hid hn
    clear hv hn hw
    go_enter Tryz.func23, Tryz.ntmps23
    go_wp2_with fail
    refine C0.out.mono ?_
    rintro e w1 ⟨rfl, b1⟩
    have HB1 := Lib.hid b1
    clear b1
    go_wp2_with fail
    go_loopw [4, 12] (fun s i wr => ∃ k : Nat, k ≤ n ∧ i = .int .i64 k ∧ s = .string (bkP xs k) ∧ Below w.heap.size w wr) (fun _ i _ => n - (intOf i).toNat)
    case atStart => exact ⟨0, Nat.zero_le _, rfl, rfl, HB1.out⟩
    case round =>
      obtain ⟨k, hk, rfl, rfl, hbr⟩ := hrel
      have HBR := Lib.hid hbr
      obtain ⟨S, hS⟩ : ∃ S, S = bkP xs k := ⟨_, rfl⟩
      have hSz : S.size ≤ 1520 := by have := HP.out k (by have := HN.out; omega); rw [← hS] at this; have := HN.out; omega
      rw [← hS]
      have HSK := Lib.hid hS
      clear hS
      by_cases hlt : k < n
      · obtain ⟨x, hxk⟩ : ∃ x, xs[k]? = some x := ⟨xs[k]'(by have := HN.out; omega), List.getElem?_eq_getElem _⟩
        obtain ⟨⟨hi0, hi1⟩, hrow⟩ := HR.out k x hxk
        obtain ⟨hl12, hws⟩ := row_ws hrow
        have hzJ := joT_size (ws := x.ws) (fun w hw => by have := (hws w hw).2; omega)
        have HST := Lib.hid ((bkP_step hxk).trans (by rw [← HSK.out] : bkR (bkP xs k) x = bkR S x))
        obtain ⟨g, o, B, cc, rfl, hg, c0, c1, hc1, hc2, hrd⟩ := (HA.out.below hbr).at hxk
        have HRD := Lib.hid (hrd)
        have HXK := Lib.hid hxk
        obtain ⟨Ta, hTa⟩ : ∃ T, T = nuJ x.id := ⟨_, rfl⟩
        have za : Ta.size ≤ 13 := by rw [hTa]; exact nuJ_size (by omega)
        have Ca := Lib.hid (fun w' h => itoa_J x.id (by omega) (by omega) w' (HT.out w' h))
        rw [← hTa] at Ca
        obtain ⟨Tj, hTj⟩ : ∃ T, T = joT x.ws := ⟨_, rfl⟩
        have Cj := Lib.hid (fun (w' : World) (h : Rd w' B (cells1 x.ws)) (hb : Below w.heap.size w w') => joinInts_any B x.ws.length cc x.ws w' rfl h hl12 (fun z hz => by have := hws z hz; omega) (fun w'' h'' => HT.out w'' (hb.trans (h''.mono hb.size))))
        rw [← hTj] at Cj hzJ
        have l58 : ((⟨#[58]⟩ : ByteArray)).size = 1 := rfl
        have l59 : ((⟨#[59]⟩ : ByteArray)).size = 1 := rfl
        have HN1 : Hid (bkP xs (k + 1) = S ++ (((Ta ++ (⟨#[58]⟩ : ByteArray)) ++ Tj) ++ (⟨#[59]⟩ : ByteArray))) := Lib.hid (by rw [HST.out, bkR, bkW_join, hTa, hTj]; simp only [ByteArray.append_assoc])
        have z1 : (Ta ++ (⟨#[58]⟩ : ByteArray)).size ≤ 14 := by rw [ByteArray.size_append]; omega
        have z2 : ((Ta ++ (⟨#[58]⟩ : ByteArray)) ++ Tj).size ≤ 190 := by rw [ByteArray.size_append]; omega
        have z3 : (((Ta ++ (⟨#[58]⟩ : ByteArray)) ++ Tj) ++ (⟨#[59]⟩ : ByteArray)).size ≤ 191 := by rw [ByteArray.size_append]; omega
        clear hxk hrow hws hrd hTa hTj
        obtain ⟨W1, hW1⟩ : ∃ W, W = (wr.alloc (.cells #[.int .i64 x.id, .slice B x.ws.length cc] 34)) := ⟨_, rfl⟩
        have y0 : W1.cell? ⟨wr.heap.size, 0, none⟩ = some (.int .i64 x.id) := by rw [hW1]; exact World.cell?_alloc_at _ _ _ _ rfl
        have y1 : W1.cell? ⟨wr.heap.size, 1, none⟩ = some (.slice B x.ws.length cc) := by rw [hW1]; exact World.cell?_alloc_at _ _ _ _ rfl
        have hy : wr.heap.size < W1.heap.size := by rw [hW1]; simp
        have b1 : Below wr.heap.size wr W1 := by rw [hW1]; exact (Below.refl _ _).alloc (Nat.le_refl _) _
        have HB2 := Lib.hid (hbr.trans (b1.mono hbr.size))
        have HRD2 := Lib.hid (HRD.out.below b1)
        have HW1 := Lib.hid hW1
        clear hW1 b1 hbr
        go_wp2_with fail
        rw [← HW1.out]
        refine wp_region_lat W1.heap.size (by kernel_rfl) (by kernel_rfl) ?_
        have LC := fun (u : Lat W1.heap.size W1) => u.cell
        repeat (go_big_quiet_step ((first | (go_at_call 52; (with_reducible exact lat_call _ (Nat.le_refl _) (Ca.out _ (HB2.out.trans ((Lat.below _).mono HB2.out.size))))) | (go_at_call 53; (with_reducible exact lat_call _ (Nat.le_refl _) (Cj.out _ (HRD2.out.below (Lat.below _)) (HB2.out.trans ((Lat.below _).mono HB2.out.size))))))))
        refine wpQuiet_nil ?_
        intro w3 hw3
        clear LC
        have HB3 := Lib.hid (HB2.out.trans (hw3.mono HB2.out.size))
        go_wp2
        go_roundw
        case rel => exact ⟨k + 1, by omega, by go_num, by rw [HN1.out], HB3.out⟩
        case measure => simp [intOf]; omega
      · have hd : decide (k < n) = false := by simpa using hlt
        have HKE := Lib.hid (show k = n by omega)
        go_wp2
        go_ret2
        exact ⟨by rw [HV.out, HN.out, ← HKE.out, ← HSK.out]; rfl, HBR.out⟩
end Go.Proofs.YtacacibpehnmgaaGreatDoor
