/-
  PackRises: the walk.
-/
import Derived.Test.YtgdemfjlhcepiaaPackE
import Derived.Test.YtgdemfjlhcepiaaPackP
import Derived.Deep.DeepCutAuto
import Derived.Test.YtgdemfjlhcepiaaQ
set_option linter.unusedVariables false
set_option linter.unusedSimpArgs false
namespace Go.Proofs.Ytgdemfjlhcepiaa
open Go.RowKit
attribute [local go_sem] eq_bytes_nil
theorem num1_calls (x : Nat) (hx : x < 18446744073709551616) (g : Nat) (W : World) (hc : W.cell? ⟨g, 0, none⟩ = some (.int .u64 (Int.ofNat x))) :
    Calls Try.prog 9 #[.slice none 0 0, .slice (some ⟨g, 0, none⟩) 1 1] W fun e w' => ∃ v', e = .returned v' ∧ RV w' v' (encN x).length 1 (bs (encN x)) ∧ Below W.heap.size W w' := by
  have hlx : (encNs [x]).length ≤ 9 := encNs_le [x]
  have h1 : RV W (.slice (some ⟨g, 0, none⟩) 1 1) 1 1 (nums64 [x]) := ⟨rfl, _, 1, rfl, Nat.le_refl _, by decide, fun _ => ⟨g, 0, rfl, fun j u hj => by
    match j, hj with
    | 0, hj => simp [nums64] at hj; subst hj; exact hc⟩⟩
  refine (num_calls _ _ [] [x] W (RV_nil _ 1) h1 (by simpa using hx) (by simp; omega)).mono fun e w' hh => ?_
  obtain ⟨v, rfl, ho, hb⟩ := hh
  exact ⟨v, rfl, by simpa [encNs] using RV_own ho, hb⟩
theorem below_2 {w W1 w1 W2 w2 : World} (a : Below w.heap.size w W1) (h1 : Below W1.heap.size W1 w1) (b : Below w1.heap.size w1 W2) (h2 : Below W2.heap.size W2 w2) : Below w.heap.size w w2 :=
  below_size (below_size a h1) (below_size b h2)
set_option maxHeartbeats 4000000 in
set_option maxRecDepth 100000 in
theorem rises_calls (x y : Nat) (hx : x < 18446744073709551616) (hy : y < 18446744073709551616) (w : World) : Calls Try.prog 3 #[.int .u64 (Int.ofNat x), .int .u64 (Int.ofNat y)] w fun e w' => e = .returned (.bool true) ∧ Below w.heap.size w w' := by
  have hlx : (encNs [x]).length ≤ 9 := encNs_le [x]
  have hly : (encNs [y]).length ≤ 9 := encNs_le [y]
  go_enter Try.func3, Try.ntmps3
  go_upto_region 1 with (fail)
  go_cut [5, 6] (fun a b wc => a = .string (st (encN x)) ∧ b = .string (st (encN y)) ∧ Below w.heap.size w wc)
  case first =>
    go_region_with (first | (go_at_call 9; refine Calls.mono (num1_calls x hx _ _ ?_) ?_; go_simp; rintro e w1 ⟨v1, rfl, hv1, hb1⟩; have hcv1 := conv_bytes hv1; have hcv1a := fun o => conv_bytes (hv1.alloc o); have hbc := fun b o (h : b < _) => hb1.cell (p := ⟨b, o, none⟩) h) | (go_at_call 9; refine Calls.mono (num1_calls y hy _ _ ?_) ?_; go_simp; rintro e w2 ⟨v2, rfl, hv2, hb2⟩; have hcv2 := conv_bytes hv2; have hcv1b := conv_bytes (show RV w2 v1 _ 1 (bs (encN x)) by first | exact (hv1.alloc _).below hb2 | exact hv1.below hb2)))
    all_goals (go_wp2_with fail; go_meet)
    all_goals refine ⟨rfl, rfl, ?_⟩
    all_goals (refine below_2 ?_ hb1 ?_ hb2 <;> (repeat (first | exact Below.refl _ _ | apply Below.drew | refine Below.alloc ?_ (by simp) _)))
  case rest =>
    obtain ⟨rfl, rfl, hbw⟩ := hcut
    obtain ⟨sa, hsa⟩ := hidden (st (encN x))
    obtain ⟨sb, hsb⟩ := hidden (st (encN y))
    rw [hsa.out, hsb.out]
    have hsz : sa.size = nb x + 1 := by rw [← hsa.out, st_size, encN_length]
    have HSZ := hid hsz
    have hnb := nb_le x
    clear hsz
    go_wp2_with fail
    go_loop [7, 8] (fun k z => ∃ j : Nat, j + nb (x / 256 ^ j) = nb x ∧ k = .int .i64 (Int.ofNat (j + 1)) ∧ z = .int .u64 (Int.ofNat (x / 256 ^ j))) (fun _ z => (intOf z).toNat)
    case atStart => exact ⟨0, by simp, rfl, by simp⟩
    case round =>
      obtain ⟨j, hj, rfl, rfl⟩ := hrel
      have hzx : x / 256 ^ j ≤ x := Nat.div_le_self _ _
      by_cases h0 : 0 < x / 256 ^ j
      · have hd := nb_div (x / 256 ^ j) (by omega) h0
        have hdd : x / 256 ^ (j + 1) = x / 256 ^ j / 256 := by rw [Nat.pow_succ, Nat.div_div_eq_div_mul]
        have HD := hid hdd
        have HJ := hid hj
        have hj8 : j < 9 := by omega
        clear hdd hj
        obtain ⟨z, hz⟩ := hidden (x / 256 ^ j)
        rw [hz.out] at h0 hzx HJ hd HD ⊢
        have HD2 := hid hd
        clear hd
        go_wp2
        go_round
        case rel =>
          refine ⟨j + 1, ?_, by go_num, ?_⟩
          · have := HJ.out; have := HD2.out; rw [HD.out]; omega
          · rw [HD.out]; go_num
        case measure => simp [intOf]; omega
      · obtain ⟨z, hz⟩ := hidden (x / 256 ^ j)
        rw [hz.out] at h0 hj hzx ⊢
        obtain rfl : z = 0 := by omega
        rw [nb_zero] at hj
        obtain rfl : j = nb x := by omega
        clear hj
        have hlt0 := less_enc x y hx hy
        have hL : Op.bytesLess sa.toList sb.toList = decide (x < y) := by rw [← hsa.out, ← hsb.out, ByteArray.toList_eq, ByteArray.toList_eq]; exact hlt0
        have h4 : ((sa.size : Int) == (nb x : Int) + 1) = true := by rw [HSZ.out]; simp
        clear hlt0
        by_cases hxy : x = y
        · subst hxy
          have : sb = sa := hsb.out.symm.trans hsa.out
          subst this
          go_wp2_with fail
          refine wp_region_bw (by kernel_rfl) (by kernel_rfl) ?_
          repeat (go_big_quiet_step ((go_at_call 10; exact bw_of (awake_calls _))))
          refine wpQuiet_nil ?_
          rintro _ ⟨i, rfl⟩
          go_wp2
          go_ret
          exact ⟨rfl, below_size hbw i.below⟩
        · have hE : (sa.toList == sb.toList) = false := by
            rw [← hsa.out, ← hsb.out, ByteArray.toList_eq, ByteArray.toList_eq]
            refine beq_eq_false_iff_ne.2 fun e => hxy (enc_inj x y hx hy ?_)
            exact e
          have hxy0 : ((x : Int) == (y : Int)) = false := beq_eq_false_iff_ne.2 (by omega)
          have hsy : sb.size = (encN y).length := by rw [← hsb.out, st_size]
          have hsx : sa.size = (encN x).length := by rw [← hsa.out, st_size]
          obtain ⟨n, hn⟩ : ∃ n : Nat, Hid (min (sa.size : Int) (sb.size : Int) = (n : Int)) := ⟨min sa.size sb.size, by show _ = _; omega⟩
          have hn1 := hn.out
          have hna : n ≤ sa.size := by omega
          have hnb2 : n ≤ sb.size := by omega
          have hP : ((sa.extract 0 n).toList == (sb.extract 0 n).toList) = false := by
            rw [← hsa.out, ← hsb.out, ByteArray.toList_eq, ByteArray.toList_eq, Lib.extract_data, Lib.extract_data]
            refine beq_eq_false_iff_ne.2 fun e => hxy (enc_prefix x y n hx hy (by omega) ?_)
            simpa [st] using e
          clear hsy hsx hn1
          go_wp2_with fail
          rw [hn.out]
          refine wp_region_bw (by kernel_rfl) (by kernel_rfl) ?_
          repeat (go_big_quiet_step ((go_at_call 10; exact bw_of (awake_calls _))))
          refine wpQuiet_nil ?_
          rintro _ ⟨i, rfl⟩
          go_wp2
          go_ret
          exact ⟨rfl, below_size hbw i.below⟩
theorem wf_u64 {a : Int} (h : (Lit.int .u64 a).wf = true) : ∃ n : Nat, a = Int.ofNat n ∧ n < 18446744073709551616 := by
  simp [Lit.wf, IntKind.min, IntKind.max, IntKind.bits, IntKind.signed] at h
  exact ⟨a.toNat, by simp; omega, by omega⟩
theorem packRises_walk (a b : Int) (w : World) (ha : (Lit.int .u64 a).wf = true) (hb : (Lit.int .u64 b).wf = true) : Calls Try.prog 3 #[.int .u64 a, .int .u64 b] w fun e w' => e = .returned (.bool true) ∧ Below w.heap.size w w' := by
  obtain ⟨x, rfl, hx⟩ := wf_u64 ha
  obtain ⟨y, rfl, hy⟩ := wf_u64 hb
  exact rises_calls x y hx hy w
end Go.Proofs.Ytgdemfjlhcepiaa
