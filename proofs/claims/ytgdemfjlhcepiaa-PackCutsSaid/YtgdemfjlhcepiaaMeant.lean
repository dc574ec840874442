/-
  The same call on the document's Cut: the walk; and whether both stand alike.
-/
import Derived.Test.YtgdemfjlhcepiaaBitten
set_option linter.unusedVariables false
set_option linter.unusedSimpArgs false
namespace Go.Proofs.Ytgdemfjlhcepiaa
open Go.RowKit
attribute [local go_sem] eq_bytes_nil
variable {kb : Nat}
theorem DCut.failed {w : World} {p : Nat} {xs : List UInt8} {bad : Bool} (h : DCut w p xs bad) (b : Bool) : DCut (w.setCell ⟨p, 1, none⟩ (.bool b)) p xs b := by obtain ⟨kb, h⟩ := h; exact ⟨kb, h.failed b⟩
set_option maxHeartbeats 2000000 in
theorem meant_calls (p : Nat) (xs : List UInt8) (bad : Bool) (K : Int) (n : Nat) (m : Int) (w : World) (h : DCut w p xs bad) (hl : xs.length ≤ 140737488355328) (hK : -9223372036854775808 ≤ K) (hK2 : K ≤ 9223372036854775807) (hn : n < 18446744073709551616) (hm : m ≤ 9223372036854775807)
    (U : Nat) (S : ByteArray) (xs' : List UInt8) (bad' : Bool) (hN : Hid (biteS (kindOf K) n m xs bad = (U, S, xs', bad'))) :
    Calls Try.prog 18 #[.pointer (some ⟨p, 0, none⟩), .agg #[.int .i64 K, .int .u64 (n : Int), .int .i64 m]] w fun e w' => e = .returned (.tuple #[.int .u64 (U : Int), .string S]) ∧ DCut w' p xs' bad' ∧ w.grownBy w' (some p) := by
  have hk6 := (kind_facts K).2.2.2
  go_enter Try.func18, Try.ntmps18
  go_wp2_with fail
  refine (kind_calls K (n : Int) m _ hK hK2).mono ?_
  rintro e w2 ⟨rfl, hb0⟩
  obtain ⟨hb, hz⟩ := below_alloc hb0
  have hc0 : w2.cell? ⟨w.heap.size, 0, none⟩ = some (.int .i64 K) := by rw [hb0.cell (p := ⟨w.heap.size, 0, none⟩) (by simp)]; go_simp
  have hc1 : w2.cell? ⟨w.heap.size, 1, none⟩ = some (.int .u64 (n : Int)) := by rw [hb0.cell (p := ⟨w.heap.size, 1, none⟩) (by simp)]; go_simp
  have hc2 : w2.cell? ⟨w.heap.size, 2, none⟩ = some (.int .i64 m) := by rw [hb0.cell (p := ⟨w.heap.size, 2, none⟩) (by simp)]; go_simp
  have h2 := h.below hb
  have hgb := grown_of_below hb (some p)
  obtain ⟨k, hk⟩ := hidden (kindOf K)
  rw [hk.out] at hk6 hN ⊢
  have h6 : k = 0 ∨ k = 1 ∨ k = 2 ∨ k = 3 ∨ k = 4 ∨ k = 5 := by omega
  rcases h6 with rfl | rfl | rfl | rfl | rfl | rfl
  · obtain ⟨a, b, c, hr⟩ : ∃ a b c, Hid (numS n xs bad = (a, b, c)) := ⟨_, _, _, rfl⟩
    have hN2 := hN.out
    simp only [biteS, hr.out, Prod.mk.injEq] at hN2
    obtain ⟨rfl, rfl, rfl, rfl⟩ := hN2
    go_wp2_with fail
    refine (rnum_calls _ _ xs bad h2 hl n a b c hr).mono ?_
    rintro e w3 ⟨rfl, h3, g3⟩
    go_wp2_with fail
    go_ret2
    exact ⟨rfl, h3, grown_trans hgb g3⟩
  · obtain ⟨D, b, c, hr⟩ : ∃ a b c, Hid (blobR m xs bad = (a, b, c)) := ⟨_, _, _, rfl⟩
    have hN2 := hN.out
    simp only [biteS, hr.out, Prod.mk.injEq] at hN2
    obtain ⟨rfl, rfl, rfl, rfl⟩ := hN2
    go_wp2_with fail
    go_region_with (go_at_call 39; refine (dblob_calls _ _ xs bad (h2.below (Below.refl _ _).drew) hl m hm D b c hr).mono ?_; rintro e w3 ⟨⟨u, rfl, hu3⟩, h3, g3⟩; have hcv := conv_bytes hu3)
    all_goals (try go_wp2)
    all_goals go_ret2
    all_goals exact ⟨rfl, h3, grown_trans hgb (grown_trans (grown_of_below (Below.refl _ _).drew _) g3)⟩
  · obtain ⟨D, b, c, hr⟩ : ∃ a b c, Hid (blobR m xs bad = (a, b, c)) := ⟨_, _, _, rfl⟩
    have hN2 := hN.out
    simp only [biteS, hr.out, Prod.mk.injEq] at hN2
    obtain ⟨rfl, rfl, rfl, rfl⟩ := hN2
    go_wp2_with fail
    go_region_with (go_at_call 39; refine (dblob_calls _ _ xs bad (h2.below (Below.refl _ _).drew) hl m hm D b c hr).mono ?_; rintro e w3 ⟨⟨u, rfl, hu3⟩, h3, g3⟩; have hcv := conv_bytes hu3)
    all_goals (try go_wp2)
    all_goals go_ret2
    all_goals exact ⟨rfl, h3, grown_trans hgb (grown_trans (grown_of_below (Below.refl _ _).drew _) g3)⟩
  · obtain ⟨R, b, c, hr⟩ : ∃ a b c, Hid (sumR xs bad = (a, b, c)) := ⟨_, _, _, rfl⟩
    have hN2 := hN.out
    simp only [biteS, hr.out, Prod.mk.injEq] at hN2
    obtain ⟨rfl, rfl, rfl, rfl⟩ := hN2
    have hRl := sumR_length hr
    go_wp2_with fail
    refine (dsum_calls _ _ xs bad h2 hl R b c hr).mono ?_
    rintro e w3 ⟨rfl, h3, g3⟩
    have HRL : Hid (R.length = 32) := hRl
    clear hRl
    have hcv := conv_bytes ((RV_new w3 (bs R) 60 32 1 (0, 0) (by rw [bs_length, HRL.out]) (by decide)).below (Below.refl _ _).drew)
    go_wp2_with (refine wpList_store_new 60 (.tmp 6) (.tmp 26) _ (bs R) (by rw [bs_length, HRL.out]; kernel_rfl) (by rw [bs_length, HRL.out]; rfl) (bs_one R) rfl rfl rfl rfl ?_)
    go_region
    all_goals (try go_wp2)
    all_goals go_ret2
    all_goals exact ⟨rfl, h3.below (((Below.refl _ _).alloc (Nat.le_refl _) _).drew), grown_trans hgb (grown_trans g3 (grown_of_below (((Below.refl _ _).alloc (Nat.le_refl _) _).drew) _))⟩
  · have hN2 := hN.out
    simp only [biteS, Prod.mk.injEq] at hN2
    obtain ⟨rfl, rfl, rfl, rfl⟩ := hN2
    obtain ⟨kb2, h2'⟩ := id h2
    obtain ⟨A1, c1, g0, g1, gr, gf0, gf1, _⟩ := h2'.cells
    go_wp2_with fail
    go_ret2
    exact ⟨rfl, h2.failed true, grown_trans hgb (grown_setCell _ _ _ _)⟩
  · obtain ⟨b, hbb⟩ : ∃ b, Hid (b = (bad || decide (0 < xs.length))) := ⟨_, rfl⟩
    have hN2 := hN.out
    simp only [biteS, ← hbb.out, Prod.mk.injEq] at hN2
    obtain ⟨rfl, rfl, rfl, rfl⟩ := hN2
    go_wp2_with fail
    refine (ddone_calls _ _ xs bad h2 b hbb).mono ?_
    rintro e w3 ⟨rfl, h3, g3⟩
    cases b
    · go_wp2_with fail
      go_ret2
      exact ⟨rfl, h3, grown_trans hgb g3⟩
    · go_wp2_with fail
      go_ret2
      exact ⟨rfl, h3, grown_trans hgb g3⟩
/-- Both have as many bytes left, and the same fault. -/
theorem stands_calls (v : Value) (p : Nat) (xs : List UInt8) (bad : Bool) (w : World) (h : CutV w v kb xs bad) (hd : DCut w p xs bad) :
    Calls Try.prog 19 #[v, .pointer (some ⟨p, 0, none⟩)] w fun e w' => e = .returned (.bool true) ∧ Below w.heap.size w w' := by
  obtain ⟨kb2, h2'⟩ := id hd
  obtain ⟨A1, c1, g0, g1, gr, gf0, gf1, _⟩ := h2'.cells
  have hpl := hd.lt
  have hi0 : ∀ i : BWt w, i.w.cell? ⟨p, 0, none⟩ = some (.slice A1 xs.length c1) := fun i => (i.cell p 0 hpl).trans g0
  cases bad
  · go_enter Try.func19, Try.ntmps19
    go_wp2_with fail
    refine wp_region_bw (by kernel_rfl) (by kernel_rfl) ?_
    repeat (go_big_quiet_step (first | (go_at_call 12; exact bw_same (left_calls _ _ xs _ (h.below (BWt.below _)))) | (go_at_call 14; exact bw_of (err_calls _ _ xs _ (h.below (BWt.below _)) 0 rfl))))
    refine wpQuiet_nil ?_
    rintro _ ⟨i, rfl⟩
    go_wp2
    go_ret
    exact ⟨rfl, i.below⟩
  · go_enter Try.func19, Try.ntmps19
    go_wp2_with fail
    refine wp_region_bw (by kernel_rfl) (by kernel_rfl) ?_
    repeat (go_big_quiet_step (first | (go_at_call 12; exact bw_same (left_calls _ _ xs _ (h.below (BWt.below _)))) | (go_at_call 14; exact bw_of (err_calls _ _ xs _ (h.below (BWt.below _)) 2 rfl))))
    refine wpQuiet_nil ?_
    rintro _ ⟨i, rfl⟩
    go_wp2
    go_ret
    exact ⟨rfl, i.below⟩
end Go.Proofs.Ytgdemfjlhcepiaa
