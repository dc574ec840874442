/-
  PackNobody: the walk.
-/
import Derived.Test.YtgdemfjlhcepiaaBites
set_option linter.unusedVariables false
set_option linter.unusedSimpArgs false
namespace Go.Proofs.Ytgdemfjlhcepiaa
open Go.RowKit
set_option maxHeartbeats 4000000 in
set_option maxRecDepth 100000 in
theorem nobody_calls (lv : Value) (l : List (Int × Nat × Int)) (w : World) (hv : RV w lv l.length 3 (l.flatMap biteV)) (hok : ∀ x ∈ l, biteOk x) : Calls Try.prog 6 #[lv] w fun e w' => e = .returned (.bool true) ∧ Below w.heap.size w w' := by
  obtain ⟨A, c, rfl⟩ := hv.slice
  have hmax := hv.max
  by_cases hbig : 500 < l.length
  · go_enter Try.func6, Try.ntmps6
    go_wp2_with (go_at_call 10; refine (awake_calls _).mono ?_; rintro e w1 ⟨rfl, hb⟩)
    go_ret
    exact ⟨rfl, hb⟩
  · go_enter Try.func6, Try.ntmps6
    go_wp2_with fail
    have hD1 : DCut (((w.alloc (.cells #[.slice none 0 0, .bool false] 52)).alloc (.cells #[.slice none 0 0, .bool false] 41)).alloc (.cells #[.slice none 0 0, .bool true] 41)) (w.heap.size + 1 + 1) [] true := by
      refine ⟨0, none, 0, ?_, RV_nil _ _, fun h => absurd rfl h⟩
      have := heap_alloc_new ((w.alloc (.cells #[.slice none 0 0, .bool false] 52)).alloc (.cells #[.slice none 0 0, .bool false] 41)) (.cells #[.slice none 0 0, .bool true] 41)
      simpa using this
    have hD2 : DCut (((w.alloc (.cells #[.slice none 0 0, .bool false] 52)).alloc (.cells #[.slice none 0 0, .bool false] 41)).alloc (.cells #[.slice none 0 0, .bool true] 41)) (w.heap.size + 1) [] false := by
      refine ⟨0, none, 0, ?_, RV_nil _ _, fun h => absurd rfl h⟩
      rw [Below.heap_alloc _ _ _ (by simp)]
      have := heap_alloc_new (w.alloc (.cells #[.slice none 0 0, .bool false] 52)) (.cells #[.slice none 0 0, .bool false] 41)
      simpa using this
    have hC2 : CutV (((w.alloc (.cells #[.slice none 0 0, .bool false] 52)).alloc (.cells #[.slice none 0 0, .bool false] 41)).alloc (.cells #[.slice none 0 0, .bool true] 41)) (.pointer (some ⟨w.heap.size, 0, none⟩)) 0 [] false := by
      refine .inr ⟨w.heap.size, rfl, none, 0, ?_, RV_nil _ _, fun h => absurd rfl h⟩
      rw [Below.heap_alloc _ _ _ (by simp; omega), Below.heap_alloc _ _ _ (by simp)]
      exact heap_alloc_new w _
    have hB0 : Below w.heap.size w (((w.alloc (.cells #[.slice none 0 0, .bool false] 52)).alloc (.cells #[.slice none 0 0, .bool false] 41)).alloc (.cells #[.slice none 0 0, .bool true] 41)) :=
      (((Below.refl w.heap.size w).alloc (Nat.le_refl _) _).alloc (Nat.le_of_lt (by simp)) _).alloc (Nat.le_trans (Nat.le_add_right _ 2) (Nat.le_of_eq (by simp))) _
    go_loopw [7] (fun i wr => ∃ (k : Nat) (xs1 : List UInt8) (b1 : Bool) (xs2 : List UInt8) (b2 : Bool), k ≤ l.length ∧ i = .int .i64 (k : Int) ∧ xs1.length ≤ 100 ∧ xs2.length ≤ 100 ∧ CutV wr (.pointer none) 0 xs1 b1 ∧ DCut wr (w.heap.size + 1 + 1) xs1 b1 ∧ CutV wr (.pointer (some ⟨w.heap.size, 0, none⟩)) 0 xs2 b2 ∧ DCut wr (w.heap.size + 1) xs2 b2 ∧ Below w.heap.size w wr) (fun i _ => l.length - (intOf i).toNat)
    case atStart => exact ⟨0, [], true, [], false, Nat.zero_le _, rfl, by simp, by simp, .inl ⟨rfl, rfl, rfl⟩, hD1, hC2, hD2, hB0⟩
    case round =>
      clear hD1 hD2 hC2 hB0
      obtain ⟨k, xs1, b1, xs2, b2, hk, rfl, hl1, hl2, hc1, hd1, hc2, hd2, hb⟩ := hrel
      by_cases hlt : k < l.length
      · obtain ⟨b, o, rfl, hbl, hce⟩ := bite_at hv hb k hlt
        have hx := hok l[k] (List.getElem_mem hlt)
        obtain ⟨⟨K, n, m⟩, HX⟩ := hidden l[k]
        rw [HX.out] at hce hx
        obtain ⟨hK1, hK2, hn, hm⟩ := hx
        have hce2 : ∀ W, Below w.heap.size w W → ∀ j u, ([.int .i64 K, .int .u64 (n : Int), .int .i64 m] : List Value)[j]? = some u → W.cell? ⟨b, o + k * 3 + j, none⟩ = some u := hce
        have HC := hid hce2
        clear hce hce2
        obtain ⟨U1, S1, ys1, c1, hN1⟩ : ∃ U S x y, Hid (biteS (kindOf K) n m xs1 b1 = (U, S, x, y)) := ⟨_, _, _, _, rfl⟩
        obtain ⟨U2, S2, ys2, c2, hN2⟩ : ∃ U S x y, Hid (biteS (kindOf K) n m xs2 b2 = (U, S, x, y)) := ⟨_, _, _, _, rfl⟩
        have hy1 := bite_len hN1
        have hy2 := bite_len hN2
        go_wp2_with (refine wpList_load_at 45 (.tmp 36) b (o + k * 3) [.int .i64 K, .int .u64 (n : Int), .int .i64 m] _ (HC.out _ hb) Try.underlying45 rfl (by kernel_rfl) rfl rfl rfl ?_)
        refine (bitten_calls _ xs1 b1 K n m _ hc1 (by omega) hK1 hK2 hn hm U1 S1 ys1 c1 hN1).mono ?_
        rintro e w1 ⟨rfl, hc1', g1⟩
        have q1 : Below wr.heap.size wr w1 := below_of_grown g1
        have hb1 := below_then hb hb.size q1
        have hd1a := hd1.below q1
        have hc2a := hc2.below q1
        have hd2a := hd2.below q1
        have hz1 := hb1.size
        go_wp2_with (refine wpList_load_at 45 (.tmp 45) b (o + k * 3) [.int .i64 K, .int .u64 (n : Int), .int .i64 m] _ (HC.out _ hb1) Try.underlying45 rfl (by kernel_rfl) rfl rfl rfl ?_)
        refine (meant_calls _ xs1 b1 K n m _ hd1a (by omega) hK1 hK2 hn hm U1 S1 ys1 c1 hN1).mono ?_
        rintro e w2 ⟨rfl, hd1', g2⟩
        obtain ⟨kq1, hq1⟩ := id hd1a
        have hb2 : Below w.heap.size w w2 := hb1.grown g2 hb1.size (fun j hj => by have := Option.some.inj hj; omega)
        have hc1b := hc1'.besides hq1 g2 (by simp [cutBlk])
        have hc2b := hc2a.besides hq1 g2 (by simp [cutBlk]; omega)
        have hd2b : DCut w2 (w.heap.size + 1) xs2 b2 := by obtain ⟨kk, h⟩ := hd2a; exact ⟨kk, h.besides hq1 g2 (by omega)⟩
        go_wp2_with (refine wpList_load_at 45 (.tmp 54) b (o + k * 3) [.int .i64 K, .int .u64 (n : Int), .int .i64 m] _ (HC.out _ hb2) Try.underlying45 rfl (by kernel_rfl) rfl rfl rfl ?_)
        refine (bitten_calls _ xs2 b2 K n m _ hc2b (by omega) hK1 hK2 hn hm U2 S2 ys2 c2 hN2).mono ?_
        rintro e w3 ⟨rfl, hc2', g3⟩
        have hq2 : ∃ kq, CutAt 52 w2 w.heap.size kq xs2 b2 := by
          rcases hc2b with ⟨h, _⟩ | ⟨p, h, hh⟩
          · cases h
          · simp only [Value.pointer.injEq, Option.some.injEq, Addr.mk.injEq, and_true] at h; subst h; exact ⟨_, hh⟩
        obtain ⟨kq2, hq2⟩ := hq2
        have hb3 : Below w.heap.size w w3 := hb2.grown g3 hb2.size (fun j hj => by have := Option.some.inj hj; simp at this; omega)
        have hc1c := hc1b.besides hq2 g3 (by simp [cutBlk])
        have hd1c : DCut w3 (w.heap.size + 1 + 1) ys1 c1 := by obtain ⟨kk, h⟩ := hd1'; exact ⟨kk, h.besides hq2 g3 (by omega)⟩
        have hd2c : DCut w3 (w.heap.size + 1) xs2 b2 := by obtain ⟨kk, h⟩ := hd2b; exact ⟨kk, h.besides hq2 g3 (by omega)⟩
        go_wp2_with (refine wpList_load_at 45 (.tmp 63) b (o + k * 3) [.int .i64 K, .int .u64 (n : Int), .int .i64 m] _ (HC.out _ hb3) Try.underlying45 rfl (by kernel_rfl) rfl rfl rfl ?_)
        refine (meant_calls _ xs2 b2 K n m _ hd2c (by omega) hK1 hK2 hn hm U2 S2 ys2 c2 hN2).mono ?_
        rintro e w4 ⟨rfl, hd2', g4⟩
        obtain ⟨kq3, hq3⟩ := id hd2c
        have hb4 : Below w.heap.size w w4 := hb3.grown g4 hb3.size (fun j hj => by have := Option.some.inj hj; omega)
        have hc1d := hc1c.besides hq3 g4 (by simp [cutBlk])
        have hc2d := hc2'.besides hq3 g4 (by simp [cutBlk])
        have hd1d : DCut w4 (w.heap.size + 1 + 1) ys1 c1 := by obtain ⟨kk, h⟩ := hd1c; exact ⟨kk, h.besides hq3 g4 (by omega)⟩
        go_wp2_with fail
        refine (stands_calls _ _ ys1 c1 w4 hc1d hd1d).mono ?_
        rintro e w5 ⟨rfl, b5⟩
        go_wp2_with fail
        refine (stands_calls _ _ ys2 c2 w5 (hc2d.below b5) (hd2'.below b5)).mono ?_
        rintro e w6 ⟨rfl, b6⟩
        have b7 := below_size b5 b6
        go_wp2_with fail
        go_roundw
        case rel => exact ⟨k + 1, ys1, c1, ys2, c2, by omega, by go_num, by omega, by omega, hc1d.below b7, hd1d.below b7, hc2d.below b7, hd2'.below b7, below_then hb4 hb4.size b7⟩
        case measure => simp [intOf]; omega
      · go_wp2_with (go_at_call 10; refine (awake_calls _).mono ?_; rintro e w8 ⟨rfl, hb8⟩)
        go_ret
        exact ⟨rfl, below_then hb hb.size hb8⟩
theorem packNobody_walk (v : Value) (l : List (Int × Nat × Int)) (w : World) (hv : RV w v l.length 3 (l.flatMap biteV)) (hz : l.length ≤ 140737488355328) (hok : ∀ x ∈ l, biteOk x) : Calls Try.prog 6 #[v] w fun e w' => e = .returned (.bool true) ∧ Below w.heap.size w w' :=
  nobody_calls v l w hv hok
end Go.Proofs.Ytgdemfjlhcepiaa
