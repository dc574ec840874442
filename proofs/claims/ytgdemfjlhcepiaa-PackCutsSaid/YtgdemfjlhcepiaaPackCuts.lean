/-
  PackCuts: the walk.
-/
import Derived.Test.YtgdemfjlhcepiaaBites
set_option linter.unusedVariables false
set_option linter.unusedSimpArgs false
namespace Go.Proofs.Ytgdemfjlhcepiaa
open Go.RowKit
attribute [local go_sem] eq_bytes_nil
theorem own_alloc {w : World} {base : Nat} {e : TypeId} {size : Nat} {v : Value} {n : Nat} {xs : List Value} (h : w.ownsRow base e size v n xs) (o : Obj) : (w.alloc o).ownsRow base e size v n xs := own_below h ((Below.refl _ _).alloc (Nat.le_refl _) _)
theorem CutAt.otherG {t : TypeId} {w w' : World} {p kb : Nat} {xs : List UInt8} {bad : Bool} (h : CutAt t w p kb xs bad) {g : Option Nat} (hg : w.grownBy w' g) (h1 : some p ≠ g) (h2 : xs ≠ [] → some kb ≠ g) (h3 : xs ≠ [] → kb < w.heap.size) : CutAt t w' p kb xs bad := by
  obtain ⟨A, c, k1, k2, k3⟩ := h
  exact ⟨A, c, by rw [hg.block p (Array.getElem?_eq_some_iff.1 k1).1 h1]; exact k1, k2.keepB (fun hx => k3 (by intro e; subst e; exact hx rfl)) (fun hx => hg.block kb (h3 (by intro e; subst e; exact hx rfl)) (h2 (by intro e; subst e; exact hx rfl))), k3⟩
set_option maxHeartbeats 4000000 in
set_option maxRecDepth 100000 in
theorem cuts_calls (v lv : Value) (xs : List UInt8) (l : List (Int × Nat × Int)) (w : World) (hv : RV w v xs.length 1 (bs xs)) (hlv : RV w lv l.length 3 (l.flatMap biteV)) (hok : ∀ x ∈ l, biteOk x) : Calls Try.prog 5 #[v, lv] w fun e w' => e = .returned (.bool true) ∧ Below w.heap.size w w' := by
  obtain ⟨A, c, rfl⟩ := hlv.slice
  have hmax := hlv.max
  have hmax2 := hv.max
  obtain ⟨vA, vc, rfl⟩ := hv.slice
  by_cases hbig : 500 < l.length
  · go_enter Try.func5, Try.ntmps5
    go_wp2_with (go_at_call 10; refine (awake_calls _).mono ?_; rintro e w1 ⟨rfl, hb⟩)
    go_ret
    exact ⟨rfl, hb⟩
  by_cases hbig2 : 20000 < xs.length
  · go_enter Try.func5, Try.ntmps5
    go_wp2_with (go_at_call 10; refine (awake_calls _).mono ?_; rintro e w1 ⟨rfl, hb⟩)
    go_ret
    exact ⟨rfl, hb⟩
  have hO := World.ownsRow_made (base := w.heap.size) (e := 5) (size := 1) w #[] 0 (Nat.le_refl _) (by decide) rfl
  have hr := hv.alloc (.cells #[] 5)
  go_enter Try.func5, Try.ntmps5
  go_wp2_with (at_builtin; refine wpList_append_rv (.tmp 22) (.tmp 23) 23 w.heap.size 5 (.int .u8 0) 1 1 Try.underlying23 info_u8 hO hr (bs_one xs) (by omega) (by simp) rfl rfl rfl rfl rfl (by decide) (by decide) ?_; intro v1 w1 hown1 hb1 hg1)
  have ho1 : w1.ownsRow w.heap.size 5 1 v1 xs.length (bs xs) := by simpa using hown1
  have hb1' : Below w.heap.size w w1 := ((Below.refl _ _).alloc (Nat.le_refl _) _).trans hb1
  clear hO hr hown1 hb1 hg1
  obtain ⟨A1, c1, rfl⟩ := (RV_own ho1).slice
  go_wp2_with fail
  refine (from_calls _ xs w1 (RV_own ho1) (by omega)).mono ?_
  rintro e w2 ⟨⟨p, kb, rfl, hp1, hp2, hk1, hk2, hc⟩, hb2⟩
  have hc := hc.toV
  have hb2' := below_then hb1' hb1'.size hb2
  have hO2 := World.ownsRow_made (base := w2.heap.size) (e := 5) (size := 1) w2 #[] 0 (Nat.le_refl _) (by decide) rfl
  have hr2 := (hv.below hb2').alloc (.cells #[] 5)
  have ho2 := own_below ho1 hb2
  have hv2 := hv.below hb2'
  go_wp2_with (at_builtin; refine wpList_append_rv (.tmp 27) (.tmp 28) 23 w2.heap.size 5 (.int .u8 0) 1 1 Try.underlying23 info_u8 hO2 hr2 (bs_one xs) (by omega) (by simp) rfl rfl rfl rfl rfl (by decide) (by decide) ?_; intro v3 w3 hown3 hb3 hg3; have ho3 := own_len hown3 (Nat.zero_add _) (List.nil_append _); clear hown3; obtain ⟨A3, c3, rfl⟩ := (RV_own ho3).slice; have hb3' : Below w2.heap.size w2 w3 := ((Below.refl _ _).alloc (Nat.le_refl _) _).trans hb3; clear hb3 hg3 hO2 hr2; have e1 := conv_bytes ((RV_own (own_below ho2 hb3')).alloc (.cells #[.slice A3 xs.length c3, .bool false] 41)); have e2 := conv_bytes ((hv2.below hb3').alloc (.cells #[.slice A3 xs.length c3, .bool false] 41)); obtain ⟨wX, hcl, hbX, hgX⟩ := clear_own Try.underlying23 zero_u8 (own_alloc (own_below ho2 hb3') (.cells #[.slice A3 xs.length c3, .bool false] 41)))
  have hne : ∀ g, (Value.slice A1 xs.length c1).ownBlock = some g → g < w1.heap.size := fun g hg => (ho1.lt g hg).2
  have hz3 := hb3'.size
  have hz2 := hb2.size
  have hz1 := hb1'.size
  have hpl : p < w2.heap.size := hc.lt p rfl
  have hC0 : CutV wX (.pointer (some ⟨p, 0, none⟩)) kb xs false :=
    (((hc.below hb3').below ((Below.refl _ _).alloc (Nat.le_refl _) _))).other hgX (.inr fun e => by have := hne p e.symm; omega) (fun _ e => by have := hne kb e.symm; omega)
  have hD0 : DCut wX w3.heap.size xs false := by
    obtain ⟨kq, k1, k2, k3⟩ := own_kb ho3 hb3'
    have hA : CutAt 41 (w3.alloc (.cells #[.slice A3 xs.length c3, .bool false] 41)) w3.heap.size kq xs false := ⟨A3, c3, heap_alloc_new w3 _, (RV_own ho3).alloc _, k3⟩
    exact ⟨kq, hA.otherG hgX (fun e => by have := hne _ e.symm; omega) (fun _ e => by have := hne _ e.symm; omega) (fun hx => by
      have h0 : 0 < xs.length := List.length_pos_iff.2 hx
      obtain ⟨o, e⟩ := k3 hx
      obtain ⟨b, o', u, e', _, _, hb⟩ := (RV_own ho3).at_ 0 h0
      rw [e] at e'
      simp only [Option.some.injEq, Addr.mk.injEq] at e'
      simp
      omega)⟩
  have hzX : w3.heap.size + 1 ≤ wX.heap.size := by have := hgX.size; simpa using this
  have hB0 : Below w.heap.size w wX := ((below_then hb2' hb2'.size hb3').alloc (by omega) _).trans hbX
  clear e1 e2 hcl hbX hgX hne ho3 hv2 ho2 ho1 hb1' hc
  go_loopw [8] (fun i wr => ∃ (k : Nat) (xs1 : List UInt8) (b1 : Bool), k ≤ l.length ∧ i = .int .i64 (k : Int) ∧ xs1.length ≤ 20000 ∧ CutV wr (.pointer (some ⟨p, 0, none⟩)) kb xs1 b1 ∧ DCut wr w3.heap.size xs1 b1 ∧ Below w.heap.size w wr) (fun i _ => l.length - (intOf i).toNat)
  case atStart => exact ⟨0, xs, false, Nat.zero_le _, rfl, by omega, hC0, hD0, hB0⟩
  case round =>
    clear hC0 hD0 hB0
    obtain ⟨k, xs1, b1, hk, rfl, hl1, hc1, hd1, hb⟩ := hrel
    by_cases hlt : k < l.length
    · obtain ⟨b, o, rfl, hbl, hce⟩ := bite_at hlv hb k hlt
      have hx := hok l[k] (List.getElem_mem hlt)
      obtain ⟨⟨K, n, m⟩, HX⟩ := hidden l[k]
      rw [HX.out] at hce hx
      obtain ⟨hK1, hK2, hn, hm⟩ := hx
      have hce2 : ∀ W, Below w.heap.size w W → ∀ j u, ([.int .i64 K, .int .u64 (n : Int), .int .i64 m] : List Value)[j]? = some u → W.cell? ⟨b, o + k * 3 + j, none⟩ = some u := hce
      have HC := hid hce2
      clear hce hce2
      obtain ⟨U1, S1, ys1, c1', hN1⟩ : ∃ U S x y, Hid (biteS (kindOf K) n m xs1 b1 = (U, S, x, y)) := ⟨_, _, _, _, rfl⟩
      have hy1 := bite_len hN1
      go_wp2_with (refine wpList_load_at 45 (.tmp 52) b (o + k * 3) [.int .i64 K, .int .u64 (n : Int), .int .i64 m] _ (HC.out _ hb) Try.underlying45 rfl (by kernel_rfl) rfl rfl rfl ?_)
      refine (bitten_calls _ xs1 b1 K n m _ hc1 (by omega) hK1 hK2 hn hm U1 S1 ys1 c1' hN1).mono ?_
      rintro e w4 ⟨rfl, hc1', g1⟩
      have hpr : p < wr.heap.size := hc1.lt p rfl
      have hb4 : Below w.heap.size w w4 := hb.grown g1 hb.size (fun j hj => by have := Option.some.inj hj; simp at this; omega)
      have hq2 : ∃ kq, CutAt 52 wr p kq xs1 b1 := by
        rcases hc1 with ⟨h, _⟩ | ⟨q, h, hh⟩
        · cases h
        · simp only [Value.pointer.injEq, Option.some.injEq, Addr.mk.injEq, and_true] at h; subst h; exact ⟨_, hh⟩
      obtain ⟨kq2, hq2⟩ := hq2
      have hd1a : DCut w4 w3.heap.size xs1 b1 := by obtain ⟨kk, h⟩ := hd1; exact ⟨kk, h.besides hq2 g1 (by omega)⟩
      go_wp2_with (refine wpList_load_at 45 (.tmp 61) b (o + k * 3) [.int .i64 K, .int .u64 (n : Int), .int .i64 m] _ (HC.out _ hb4) Try.underlying45 rfl (by kernel_rfl) rfl rfl rfl ?_)
      refine (meant_calls _ xs1 b1 K n m _ hd1a (by omega) hK1 hK2 hn hm U1 S1 ys1 c1' hN1).mono ?_
      rintro e w5 ⟨rfl, hd1', g2⟩
      obtain ⟨kq1, hq1⟩ := id hd1a
      have hb5 : Below w.heap.size w w5 := hb4.grown g2 hb4.size (fun j hj => by have := Option.some.inj hj; omega)
      have hc1b := hc1'.besides hq1 g2 (by simp [cutBlk]; omega)
      go_wp2_with fail
      refine (stands_calls _ _ ys1 c1' w5 hc1b hd1').mono ?_
      rintro e w6 ⟨rfl, b6⟩
      go_wp2_with fail
      go_roundw
      case rel => exact ⟨k + 1, ys1, c1', by omega, by go_num, by omega, hc1b.below b6, hd1'.below b6, below_then hb5 hb5.size b6⟩
      case measure => simp [intOf]; omega
    · go_wp2_with (go_at_call 10; refine (awake_calls _).mono ?_; rintro e w8 ⟨rfl, hb8⟩)
      go_ret
      exact ⟨rfl, below_then hb hb.size hb8⟩
theorem packCuts_walk (v : Value) (xs : List UInt8) (lv : Value) (l : List (Int × Nat × Int)) (w : World) (hv : RV w v xs.length 1 (bs xs)) (hz : xs.length ≤ 140737488355328) (hlv : RV w lv l.length 3 (l.flatMap biteV)) (hz2 : l.length ≤ 140737488355328) (hok : ∀ x ∈ l, biteOk x) : Calls Try.prog 5 #[v, lv] w fun e w' => e = .returned (.bool true) ∧ Below w.heap.size w w' :=
  cuts_calls v lv xs l w hv hlv hok
end Go.Proofs.Ytgdemfjlhcepiaa
