/-
  A call on a Cut: the walk.
-/
import Derived.Test.YtgdemfjlhcepiaaBite
import Derived.Test.YtgdemfjlhcepiaaClr
set_option linter.unusedVariables false
set_option linter.unusedSimpArgs false
namespace Go.Proofs.Ytgdemfjlhcepiaa
open Go.RowKit
attribute [local go_sem] eq_bytes_nil
variable {kb : Nat}
theorem sumR_length {xs : List UInt8} {bad : Bool} {R b : List UInt8} {c : Bool} (h : Hid (sumR xs bad = (R, b, c))) : R.length = 32 := by
  have := h.out
  unfold sumR at this
  split at this
  · simp only [Prod.mk.injEq] at this; rw [← this.1, List.length_take]; omega
  · simp only [Prod.mk.injEq] at this; rw [← this.1]; simp
theorem csum_calls (w : World) (v : Value) (xs : List UInt8) (bad : Bool) (h : CutV w v kb xs bad) (R xs' : List UInt8) (bad' : Bool) (hN : Hid (sumR xs bad = (R, xs', bad'))) :
    Calls Try.prog 27 #[v] w fun e w' => e = .returned (.agg (bs R).toArray) ∧ CutV w' v kb xs' bad' ∧ w.grownBy w' (cutBlk v) := by
  have hN' := hN.out
  unfold sumR at hN'
  by_cases hok : bad = false ∧ 32 ≤ xs.length
  · rw [if_pos hok] at hN'
    simp only [Prod.mk.injEq] at hN'
    obtain ⟨rfl, rfl, rfl⟩ := hN'
    obtain ⟨rfl, h32⟩ := hok
    exact csum_ok w v xs h h32
  · rw [if_neg hok] at hN'
    simp only [Prod.mk.injEq] at hN'
    obtain ⟨rfl, rfl, rfl⟩ := hN'
    exact csum_no w v xs bad h (by cases bad; simp at hok; right; omega; exact .inl rfl)
theorem zero_u8 : ∀ w, (zeroValue 5).run Try.prog w = .ok (.int .u8 0) w := fun w => by go_simp
theorem CutV.low2 {w w' : World} {v : Value} {B : Nat} {xs : List UInt8} {bad : Bool} (h : CutV w v kb xs bad) (hb : Below B w w') (hp : ∀ k, cutBlk v = some k → k < B) (hk : xs ≠ [] → kb < B) : CutV w' v kb xs bad := by
  rcases h with h | ⟨p, rfl, A, c, h3, h4, h5⟩
  · exact .inl h
  · refine .inr ⟨p, rfl, A, c, by rw [hb.block p (hp p rfl)]; exact h3, h4.keepB (fun hx => h5 (by intro e; subst e; exact hx rfl)) fun hx => hb.block kb (hk (by intro e; subst e; exact hx rfl)), h5⟩
theorem blobR_rest {m : Int} {xs : List UInt8} {bad : Bool} {D r : List UInt8} {c : Bool} (h : Hid (blobR m xs bad = (D, r, c))) (hx : r ≠ []) : xs ≠ [] := by
  rintro rfl
  have := h.out
  unfold blobR at this
  split at this
  · simp at this; exact hx this.2.1
  · simp at this; exact hx this.2.1
set_option maxHeartbeats 2000000 in
theorem bitten_calls (v : Value) (xs : List UInt8) (bad : Bool) (K : Int) (n : Nat) (m : Int) (w : World) (h : CutV w v kb xs bad) (hl : xs.length ≤ 140737488355328) (hK : -9223372036854775808 ≤ K) (hK2 : K ≤ 9223372036854775807) (hn : n < 18446744073709551616) (hm : m ≤ 9223372036854775807)
    (U : Nat) (S : ByteArray) (xs' : List UInt8) (bad' : Bool) (hN : Hid (biteS (kindOf K) n m xs bad = (U, S, xs', bad'))) :
    Calls Try.prog 17 #[v, .agg #[.int .i64 K, .int .u64 (n : Int), .int .i64 m]] w fun e w' => e = .returned (.tuple #[.int .u64 (U : Int), .string S]) ∧ CutV w' v kb xs' bad' ∧ w.grownBy w' (cutBlk v) := by
  have hk6 := (kind_facts K).2.2.2
  go_enter Try.func17, Try.ntmps17
  go_wp2_with fail
  refine (kind_calls K (n : Int) m _ hK hK2).mono ?_
  rintro e w2 ⟨rfl, hb0⟩
  obtain ⟨hb, hz⟩ := below_alloc hb0
  have hc0 : w2.cell? ⟨w.heap.size, 0, none⟩ = some (.int .i64 K) := by rw [hb0.cell (p := ⟨w.heap.size, 0, none⟩) (by simp)]; go_simp
  have hc1 : w2.cell? ⟨w.heap.size, 1, none⟩ = some (.int .u64 (n : Int)) := by rw [hb0.cell (p := ⟨w.heap.size, 1, none⟩) (by simp)]; go_simp
  have hc2 : w2.cell? ⟨w.heap.size, 2, none⟩ = some (.int .i64 m) := by rw [hb0.cell (p := ⟨w.heap.size, 2, none⟩) (by simp)]; go_simp
  have h2 := h.below hb
  have hgb := grown_of_below hb (cutBlk v)
  obtain ⟨k, hk⟩ := hidden (kindOf K)
  rw [hk.out] at hk6 hN ⊢
  have h6 : k = 0 ∨ k = 1 ∨ k = 2 ∨ k = 3 ∨ k = 4 ∨ k = 5 := by omega
  rcases h6 with rfl | rfl | rfl | rfl | rfl | rfl
  · obtain ⟨a, b, c, hr⟩ : ∃ a b c, Hid (numS n xs bad = (a, b, c)) := ⟨_, _, _, rfl⟩
    have hN2 := hN.out
    simp only [biteS, hr.out, Prod.mk.injEq] at hN2
    obtain ⟨rfl, rfl, rfl, rfl⟩ := hN2
    go_wp2_with fail
    refine (cnum_calls _ _ xs bad h2 n hn a b c hr).mono ?_
    rintro e w3 ⟨rfl, h3, g3⟩
    go_wp2_with fail
    go_ret2
    exact ⟨rfl, h3, grown_trans hgb g3⟩
  · obtain ⟨D, b, c, hr⟩ : ∃ a b c, Hid (blobR m xs bad = (a, b, c)) := ⟨_, _, _, rfl⟩
    have hN2 := hN.out
    simp only [biteS, hr.out, Prod.mk.injEq] at hN2
    obtain ⟨rfl, rfl, rfl, rfl⟩ := hN2
    go_wp2_with fail
    refine (cblob_calls _ _ xs bad h2 m hm D b c hr hl).mono ?_
    rintro e w3 ⟨⟨u, rfl, ho3⟩, h3, g3⟩
    obtain ⟨A, cc, rfl⟩ := (RV_own ho3).slice
    have hcv := conv_bytes (RV_own ho3)
    obtain ⟨w4, hcl, hb4, _⟩ := clear_own Try.underlying23 zero_u8 ho3
    go_wp2_with fail
    go_ret2
    exact ⟨rfl, h3.low2 hb4 (fun k hk => h2.lt k hk) (fun hx => h2.kb_lt (blobR_rest hr hx)), grown_trans hgb (grown_below g3 hb4)⟩
  · obtain ⟨D, b, c, hr⟩ : ∃ a b c, Hid (blobR m xs bad = (a, b, c)) := ⟨_, _, _, rfl⟩
    have hN2 := hN.out
    simp only [biteS, hr.out, Prod.mk.injEq] at hN2
    obtain ⟨rfl, rfl, rfl, rfl⟩ := hN2
    go_wp2_with fail
    refine (ctext_calls _ _ xs bad h2 m hm D b c hr).mono ?_
    rintro e w3 ⟨rfl, h3, g3⟩
    go_wp2_with fail
    go_ret2
    exact ⟨rfl, h3, grown_trans hgb g3⟩
  · obtain ⟨R, b, c, hr⟩ : ∃ a b c, Hid (sumR xs bad = (a, b, c)) := ⟨_, _, _, rfl⟩
    have hN2 := hN.out
    simp only [biteS, hr.out, Prod.mk.injEq] at hN2
    obtain ⟨rfl, rfl, rfl, rfl⟩ := hN2
    have hRl := sumR_length hr
    go_wp2_with fail
    refine (csum_calls _ _ xs bad h2 R b c hr).mono ?_
    rintro e w3 ⟨rfl, h3, g3⟩
    have HRL : Hid (R.length = 32) := hRl
    clear hRl
    have hcv := conv_bytes ((RV_new w3 (bs R) 60 32 1 (0, 0) (by rw [bs_length, HRL.out]) (by decide)).below (Below.refl _ _).drew)
    go_wp2_with (refine wpList_store_new 60 (.tmp 8) (.tmp 36) _ (bs R) (by rw [bs_length, HRL.out]; kernel_rfl) (by rw [bs_length, HRL.out]; rfl) (bs_one R) rfl rfl rfl rfl ?_)
    go_region
    all_goals (try go_wp2)
    all_goals go_ret2
    all_goals exact ⟨rfl, h3.below (((Below.refl _ _).alloc (Nat.le_refl _) _).drew), grown_trans hgb (grown_trans g3 (grown_of_below (((Below.refl _ _).alloc (Nat.le_refl _) _).drew) _))⟩
  · have hN2 := hN.out
    simp only [biteS, Prod.mk.injEq] at hN2
    obtain ⟨rfl, rfl, rfl, rfl⟩ := hN2
    go_wp2_with fail
    refine (fail_calls _ _ xs bad h2).mono ?_
    rintro e w3 ⟨rfl, h3, g3⟩
    go_wp2_with fail
    go_ret2
    exact ⟨rfl, h3, grown_trans hgb g3⟩
  · obtain ⟨b, hbb⟩ : ∃ b, Hid (b = (bad || decide (0 < xs.length))) := ⟨_, rfl⟩
    have hN2 := hN.out
    simp only [biteS, ← hbb.out, Prod.mk.injEq] at hN2
    obtain ⟨rfl, rfl, rfl, rfl⟩ := hN2
    go_wp2_with fail
    refine (done_calls _ _ xs bad h2 b hbb _ rfl).mono ?_
    rintro e w3 ⟨rfl, h3, g3⟩
    cases b
    · go_wp2_with fail
      go_ret2
      exact ⟨rfl, h3, grown_trans hgb g3⟩
    · go_wp2_with fail
      go_ret2
      exact ⟨rfl, h3, grown_trans hgb g3⟩
end Go.Proofs.Ytgdemfjlhcepiaa
