/-
  The document's pack: numbers, slices of bytes, texts, sums behind bytes.
-/
import Derived.Test.YtpgcepfecmkkaaaDoorRefA
import Derived.Test.YtpgcepfecmkkaaaDoorC
set_option linter.unusedVariables false
set_option linter.unusedSimpArgs false
namespace Go.Proofs.YtpgcepfecmkkaaaDoor
open Go.RowKit
set_option maxHeartbeats 1000000 in
theorem rnums_calls (v lv : Value) (xs : List UInt8) (l : List Nat) (w : World) (hv : RV w v xs.length 1 (bs xs)) (hlv : RV w lv l.length 1 (nums64 l)) (h64 : ∀ x ∈ l, x < 18446744073709551616) (hl : xs.length + (encNs l).length ≤ 140737488355328) :
    Calls Tryd.prog 38 #[v, lv] w fun e w' => ∃ v', e = .returned v' ∧ w'.ownsRow w.heap.size 5 1 v' (xs ++ encNs l).length (bs (xs ++ encNs l)) ∧ Below w.heap.size w w' := by
  have hmax := hlv.max
  obtain ⟨A, c, rfl⟩ := hlv.slice
  have hO := World.ownsRow_made (base := w.heap.size) (e := 5) (size := 1) w #[] 0 (Nat.le_refl _) (by decide) rfl
  have hr := hv.alloc (.cells #[] 5)
  go_enter Tryd.func38, Tryd.ntmps38
  go_wp2_with (at_builtin; refine wpList_append_rv (.tmp 7) (.tmp 8) 36 w.heap.size 5 (.int .u8 0) 1 1 Tryd.underlying36 info_u8 hO hr (bs_one xs) (by omega) (by simp) rfl rfl rfl rfl rfl (by decide) (by decide) ?_; intro v1 w1 hown1 hb1 hg1)
  have hown2 : w1.ownsRow w.heap.size 5 1 v1 xs.length (bs xs) := by simpa using hown1
  have hb2 : Below w.heap.size w w1 := ((Below.refl _ _).alloc (Nat.le_refl _) _).trans hb1
  clear hO hr hown1 hb1 hg1
  go_wp2_with fail
  go_loopw [5, 6] (fun v i wr => ∃ k : Nat, k ≤ l.length ∧ i = .int .i64 k ∧ wr.ownsRow w.heap.size 5 1 v (xs ++ encNs (l.take k)).length (bs (xs ++ encNs (l.take k))) ∧ Below w.heap.size w wr) (fun _ i _ => l.length - (intOf i).toNat)
  case atStart => exact ⟨0, Nat.zero_le _, rfl, by simpa [encNs] using hown2, hb2⟩
  case round =>
    clear hown2 hb2
    obtain ⟨k, hk, rfl, hown, hb⟩ := hrel
    by_cases hlt : k < l.length
    · obtain ⟨b, o, u, rfl, hu, hcell, hbw⟩ := hlv.at_ k hlt
      have hx := h64 l[k] (List.getElem_mem hlt)
      obtain rfl : .int .u64 (Int.ofNat l[k]) = u := by simpa [nums64, hlt] using hu
      have hcell2 : wr.cell? ⟨b, o + k, none⟩ = some (.int .u64 (Int.ofNat l[k])) := (hb.cell hbw).trans hcell
      have hsucc : encNs (l.take (k + 1)) = encNs (l.take k) ++ encN l[k] := flat_succ encN l k hlt
      have hmono : (encNs (l.take (k + 1))).length ≤ (encNs l).length := flat_mono encN l (k + 1)
      obtain ⟨x, HX⟩ := hidden l[k]
      rw [HX.out] at hcell2 hsucc hx
      have hlx : (xs ++ encNs (l.take k)).length + (encN x).length ≤ 140737488355328 := by
        rw [hsucc] at hmono; simp at hmono ⊢; omega
      have HS := hid hsucc
      clear hsucc hmono hcell hu
      have hz := hb.size
      go_wp2_with (first | (go_at_call 53; refine (number_calls x hx _).mono ?_; rintro e w2 ⟨v2, rfl, ho2, hb2⟩; have hown2 := own_below hown hb2; have hz2 := hb2.size) | (at_builtin; refine wpList_append_rv (.tmp 16) (.tmp 21) 36 w.heap.size 5 (.int .u8 0) 1 1 Tryd.underlying36 info_u8 hown2 (RV_own ho2) (bs_one _) (by omega) (by omega) rfl rfl rfl rfl rfl (by decide) (by decide) ?_; intro v3 w3 ho3 hb3 hg3))
      go_roundw
      case rel =>
        refine ⟨k + 1, by omega, by go_num, own_len ho3 ?_ ?_, (below_then hb hz hb2).trans hb3⟩
        · rw [HS.out]; simp; omega
        · rw [HS.out]; simp [bs_append]
      case measure => simp [intOf]; omega
    · go_wp2
      go_ret
      exact ⟨_, rfl, by simpa [show k = l.length by omega] using hown, hb⟩
set_option maxHeartbeats 1000000 in
theorem rblobs_calls (v lv : Value) (xs : List UInt8) (l : List (List UInt8)) (w : World) (hv : RV w v xs.length 1 (bs xs)) (hlv : RBs w lv l) (hl : (xs ++ encBs l).length ≤ 140737488355328) :
    Calls Tryd.prog 54 #[v, lv] w fun e w' => ∃ v', e = .returned v' ∧ w'.ownsRow w.heap.size 5 1 v' (xs ++ encBs l).length (bs (xs ++ encBs l)) ∧ Below w.heap.size w w' := by
  obtain ⟨vs, hvs, hel⟩ := hlv
  obtain ⟨A, c, rfl⟩ := hvs.slice
  have hmax := hvs.max
  have hO := World.ownsRow_made (base := w.heap.size) (e := 5) (size := 1) w #[] 0 (Nat.le_refl _) (by decide) rfl
  have hr := hv.alloc (.cells #[] 5)
  have hl1 : xs.length ≤ 140737488355328 := by simp at hl; omega
  go_enter Tryd.func54, Tryd.ntmps54
  go_wp2_with (at_builtin; refine wpList_append_rv (.tmp 7) (.tmp 8) 36 w.heap.size 5 (.int .u8 0) 1 1 Tryd.underlying36 info_u8 hO hr (bs_one xs) (by omega) (by simp) rfl rfl rfl rfl rfl (by decide) (by decide) ?_; intro v1 w1 hown1 hb1 hg1)
  have hown2 : w1.ownsRow w.heap.size 5 1 v1 xs.length (bs xs) := by simpa using hown1
  have hb2 : Below w.heap.size w w1 := ((Below.refl _ _).alloc (Nat.le_refl _) _).trans hb1
  clear hO hr hown1 hb1 hg1
  go_wp2_with fail
  go_loopw [5, 6] (fun v i wr => ∃ k : Nat, k ≤ l.length ∧ i = .int .i64 k ∧ wr.ownsRow w.heap.size 5 1 v (xs ++ encBs (l.take k)).length (bs (xs ++ encBs (l.take k))) ∧ Below w.heap.size w wr) (fun _ i _ => l.length - (intOf i).toNat)
  case atStart => exact ⟨0, Nat.zero_le _, rfl, by simpa [encBs] using hown2, hb2⟩
  case round =>
    clear hown2 hb2
    obtain ⟨k, hk, rfl, hown, hb⟩ := hrel
    by_cases hlt : k < l.length
    · obtain ⟨b, o, u, rfl, hu, hcell, hbw⟩ := hvs.at_ k hlt
      have hux := hel k u l[k] hu (List.getElem?_eq_getElem hlt)
      have hcell2 : wr.cell? ⟨b, o + k, none⟩ = some u := (hb.cell hbw).trans hcell
      have hsucc : encBs (l.take (k + 1)) = encBs (l.take k) ++ encB l[k] := flat_succ encB l k hlt
      have hmono : (encBs (l.take (k + 1))).length ≤ (encBs l).length := flat_mono encB l (k + 1)
      obtain ⟨x, HX⟩ := hidden l[k]
      rw [HX.out] at hux hsucc
      obtain ⟨A', c', rfl⟩ := hux.slice
      have hxm := hux.max
      have hlx : (xs ++ encBs (l.take k)).length + (encN x.length).length + x.length ≤ 140737488355328 := by
        rw [hsucc] at hmono; simp [encB] at hmono hl ⊢; omega
      have HS := hid hsucc
      clear hsucc hmono hcell hu
      have hz := hb.size
      go_wp2_with (first | (go_at_call 53; refine (number_calls x.length (by omega) _).mono ?_; rintro e w2 ⟨v2, rfl, ho2, hb2⟩; have hown2 := own_below hown hb2; have hz2 := hb2.size; have hb20 := below_then hb hz hb2) | (at_builtin; refine wpList_append_rv (.tmp 16) (.tmp 23) 36 w.heap.size 5 (.int .u8 0) 1 1 Tryd.underlying36 info_u8 hown2 (RV_own ho2) (bs_one _) (by omega) (by omega) rfl rfl rfl rfl rfl (by decide) (by decide) ?_; intro v3 w3 ho3 hb3 hg3; have hb30 := hb20.trans hb3; have hz3 := hb30.size; have hcell3 : w3.cell? ⟨b, o + k, none⟩ = some (.slice A' x.length c') := (hb30.cell hbw).trans ((hb.cell hbw).symm.trans hcell2); have hux3 := hux.below hb30) | (at_builtin; refine wpList_append_rv (.tmp 25) (.tmp 29) 36 w.heap.size 5 (.int .u8 0) 1 1 Tryd.underlying36 info_u8 ho3 hux3 (bs_one _) (by omega) (by omega) rfl rfl rfl rfl rfl (by decide) (by decide) ?_; intro v4 w4 ho4 hb4 hg4))
      go_roundw
      case rel =>
        refine ⟨k + 1, by omega, by go_num, own_len ho4 ?_ ?_, hb30.trans hb4⟩
        · rw [HS.out]; simp [encB]; omega
        · rw [HS.out]; simp [bs_append, encB]
      case measure => simp [intOf]; omega
    · go_wp2
      go_ret
      exact ⟨_, rfl, by simpa [show k = l.length by omega] using hown, hb⟩
theorem rblob1_calls (v : Value) (xs D : List UInt8) (g : Nat) (sv : Value) (W : World) (hl : (xs ++ encB D).length ≤ 140737488355328) (hx : RV W v xs.length 1 (bs xs)) (hv : RV W sv D.length 1 (bs D)) (hc : W.cell? ⟨g, 0, none⟩ = some sv) :
    Calls Tryd.prog 54 #[v, .slice (some ⟨g, 0, none⟩) 1 1] W fun e w' => ∃ v', e = .returned v' ∧ w'.ownsRow W.heap.size 5 1 v' (xs ++ encB D).length (bs (xs ++ encB D)) ∧ Below W.heap.size W w' := by
  have h1 : RV W (.slice (some ⟨g, 0, none⟩) 1 1) 1 1 [sv] := ⟨rfl, _, 1, rfl, Nat.le_refl _, by decide, fun _ => ⟨g, 0, rfl, fun j u hj => by
    match j, hj with
    | 0, hj => simp at hj; subst hj; exact hc⟩⟩
  refine (rblobs_calls _ _ xs [D] W hx ⟨[sv], h1, fun i v x hv' hx => ?_⟩ (by simpa [encBs] using hl)).mono fun e w' hh => ?_
  · match i, hv', hx with
    | 0, hv', hx => simp at hv' hx; subst hv'; subst hx; exact hv
  · obtain ⟨v, rfl, ho, hb⟩ := hh
    exact ⟨v, rfl, by simpa [encBs] using ho, hb⟩
set_option maxHeartbeats 1000000 in
theorem rtexts_calls (v lv : Value) (xs : List UInt8) (l : List ByteArray) (w : World) (hv : RV w v xs.length 1 (bs xs)) (hvs : RV w lv l.length 1 (ss l)) (hl : (xs ++ encTs l).length ≤ 140737488355328) :
    Calls Tryd.prog 39 #[v, lv] w fun e w' => ∃ v', e = .returned v' ∧ w'.ownsRow w.heap.size 5 1 v' (xs ++ encTs l).length (bs (xs ++ encTs l)) ∧ Below w.heap.size w w' := by
  obtain ⟨A, c, rfl⟩ := hvs.slice
  have hmax := hvs.max
  have hO := World.ownsRow_made (base := w.heap.size) (e := 5) (size := 1) w #[] 0 (Nat.le_refl _) (by decide) rfl
  have hr := hv.alloc (.cells #[] 5)
  have hl1 : xs.length ≤ 140737488355328 := by simp at hl; omega
  go_enter Tryd.func39, Tryd.ntmps39
  go_wp2_with (at_builtin; refine wpList_append_rv (.tmp 7) (.tmp 8) 36 w.heap.size 5 (.int .u8 0) 1 1 Tryd.underlying36 info_u8 hO hr (bs_one xs) (by omega) (by simp) rfl rfl rfl rfl rfl (by decide) (by decide) ?_; intro v1 w1 hown1 hb1 hg1)
  have hown2 : w1.ownsRow w.heap.size 5 1 v1 xs.length (bs xs) := by simpa using hown1
  have hb2 : Below w.heap.size w w1 := ((Below.refl _ _).alloc (Nat.le_refl _) _).trans hb1
  clear hO hr hown1 hb1 hg1
  go_wp2_with fail
  go_loopw [5, 6] (fun v i wr => ∃ k : Nat, k ≤ l.length ∧ i = .int .i64 k ∧ wr.ownsRow w.heap.size 5 1 v (xs ++ encTs (l.take k)).length (bs (xs ++ encTs (l.take k))) ∧ Below w.heap.size w wr) (fun _ i _ => l.length - (intOf i).toNat)
  case atStart => exact ⟨0, Nat.zero_le _, rfl, by simpa [encTs] using hown2, hb2⟩
  case round =>
    clear hown2 hb2
    obtain ⟨k, hk, rfl, hown, hb⟩ := hrel
    by_cases hlt : k < l.length
    · obtain ⟨b, o, u, rfl, hu, hcell, hbw⟩ := hvs.at_ k hlt
      obtain rfl : .string l[k] = u := by rw [ss_at l k hlt] at hu; exact Option.some.inj hu
      have hcell2 : wr.cell? ⟨b, o + k, none⟩ = some (.string l[k]) := (hb.cell hbw).trans hcell
      have hsucc : encTs (l.take (k + 1)) = encTs (l.take k) ++ encB (tb l[k]) := flat_succ (fun s => encB (tb s)) l k hlt
      have hmono : (encTs (l.take (k + 1))).length ≤ (encTs l).length := flat_mono (fun s => encB (tb s)) l (k + 1)
      obtain ⟨x, HX⟩ := hidden l[k]
      rw [HX.out] at hcell2 hsucc
      have hxs := tb_length x
      have hlx : (xs ++ encTs (l.take k)).length + (encB (tb x)).length ≤ 140737488355328 := by
        rw [hsucc] at hmono; simp at hmono hl ⊢; omega
      have HS := hid hsucc
      clear hsucc hmono hcell hu
      have hz := hb.size
      obtain ⟨A5, c5, w5, hcv5, hr5, hb5⟩ := str_bytes (P := Tryd.prog) wr 9 36 5 x (by rw [← hxs]; simp [encB] at hlx; omega) Tryd.underlying9 Tryd.underlying36 Tryd.underlying5
      have hown5 := own_below hown hb5
      have hb50 := below_then hb hz hb5
      have hlx2 : ((xs ++ encTs (l.take k)) ++ encB (tb x)).length ≤ 140737488355328 := by rw [List.length_append]; exact hlx
      have hHX2 := hid hlx2
      clear hlx2
      have hr6 : RV w5 (.slice A5 x.size c5) (tb x).length 1 (bs (tb x)) := by rw [hxs]; exact hr5
      have hz5 := hb50.size
      go_wp2_with (go_at_call 54; refine (rblob1_calls _ (xs ++ encTs (l.take k)) (tb x) _ _ _ hHX2.out ((RV_own hown5).alloc _) (hr6.alloc _) (by go_simp)).mono ?_; rintro e w6 ⟨v6, rfl, ho6, hb6⟩)
      go_roundw
      case rel =>
        refine ⟨k + 1, by omega, by go_num, own_base (own_len ho6 ?_ ?_) (by simp; omega), (hb50.alloc hz5 _).trans (hb6.mono (by simp; omega))⟩
        · rw [HS.out]; simp
        · rw [HS.out]; simp [bs_append]
      case measure => simp [intOf]; omega
    · go_wp2
      go_ret
      exact ⟨_, rfl, by simpa [show k = l.length by omega] using hown, hb⟩
end Go.Proofs.YtpgcepfecmkkaaaDoor
