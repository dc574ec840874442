/-
  ShaKnown: the walk of the law: the published sums.
-/
import Derived.Test.YthhandkckbnafaaShaKnP
import Derived.Test.YthhandkckbnafaaShaAwake
import Derived.Test.YthhandkckbnafaaShaBackH
set_option linter.unusedVariables false
set_option linter.unusedSimpArgs false
namespace Go.Proofs.Ythhandkckbnafaa
open Go.RowKit Go.Proofs.YthhandkckbnafaaZ.ZA Go.Proofs.YthhandkckbnafaaW.PrintWords Go.Proofs.YthhandkckbnafaaW.PrintLast Go.Proofs.YthhandkckbnafaaW.PrintMore
theorem str_mil : st (hexs (digest mil)) = { data := #[99, 100, 99, 55, 54, 101, 53, 99, 57, 57, 49, 52, 102, 98, 57, 50, 56, 49, 97, 49, 99, 55, 101, 50, 56, 52, 100, 55, 51, 101, 54, 55, 102, 49, 56, 48, 57, 97, 52, 56, 97, 52, 57, 55, 50, 48, 48, 101, 48, 52, 54, 100, 51, 57, 99, 99, 99, 55, 49, 49, 50, 99, 100, 48] } := by rw [dig_mil]; rfl
theorem str_56 : st (hexs (digest [97, 98, 99, 100, 98, 99, 100, 101, 99, 100, 101, 102, 100, 101, 102, 103, 101, 102, 103, 104, 102, 103, 104, 105, 103, 104, 105, 106, 104, 105, 106, 107, 105, 106, 107, 108, 106, 107, 108, 109, 107, 108, 109, 110, 108, 109, 110, 111, 109, 110, 111, 112, 110, 111, 112, 113])) = { data := #[50, 52, 56, 100, 54, 97, 54, 49, 100, 50, 48, 54, 51, 56, 98, 56, 101, 53, 99, 48, 50, 54, 57, 51, 48, 99, 51, 101, 54, 48, 51, 57, 97, 51, 51, 99, 101, 52, 53, 57, 54, 52, 102, 102, 50, 49, 54, 55, 102, 54, 101, 99, 101, 100, 100, 52, 49, 57, 100, 98, 48, 54, 99, 49] } := by rw [dig_56]; rfl
theorem rbs_k (w : World) (v : Value) (x : List UInt8) (hv : RV w v x.length 1 (bs x)) (e : TypeId) : RBs (w.alloc (.cells #[v] e)) (.slice (some ⟨w.heap.size, 0, none⟩) 1 1) [x] := by
  refine ⟨[v], RV_new w [v] e 1 1 (0, 0) rfl (by decide), fun i u y hu hy => ?_⟩
  match i with
  | 0 => simp at hu hy; subst hu; subst hy; exact hv.alloc _
  | i + 1 => simp at hu
theorem rbs_56 (w : World) : RBs ((w.alloc (.cells #[.int .u8 97, .int .u8 98, .int .u8 99, .int .u8 100, .int .u8 98, .int .u8 99, .int .u8 100, .int .u8 101, .int .u8 99, .int .u8 100, .int .u8 101, .int .u8 102, .int .u8 100, .int .u8 101, .int .u8 102, .int .u8 103, .int .u8 101, .int .u8 102, .int .u8 103, .int .u8 104, .int .u8 102, .int .u8 103, .int .u8 104, .int .u8 105, .int .u8 103, .int .u8 104, .int .u8 105, .int .u8 106, .int .u8 104, .int .u8 105, .int .u8 106, .int .u8 107, .int .u8 105, .int .u8 106, .int .u8 107, .int .u8 108, .int .u8 106, .int .u8 107, .int .u8 108, .int .u8 109, .int .u8 107, .int .u8 108, .int .u8 109, .int .u8 110, .int .u8 108, .int .u8 109, .int .u8 110, .int .u8 111, .int .u8 109, .int .u8 110, .int .u8 111, .int .u8 112, .int .u8 110, .int .u8 111, .int .u8 112, .int .u8 113] 5 (56, 57))).alloc (.cells #[.slice (some ⟨w.heap.size, 0, none⟩) 56 56] 28)) (.slice (some ⟨w.heap.size + 1, 0, none⟩) 1 1) [[97, 98, 99, 100, 98, 99, 100, 101, 99, 100, 101, 102, 100, 101, 102, 103, 101, 102, 103, 104, 102, 103, 104, 105, 103, 104, 105, 106, 104, 105, 106, 107, 105, 106, 107, 108, 106, 107, 108, 109, 107, 108, 109, 110, 108, 109, 110, 111, 109, 110, 111, 112, 110, 111, 112, 113]] := by
  have h := rbs_k _ _ [97, 98, 99, 100, 98, 99, 100, 101, 99, 100, 101, 102, 100, 101, 102, 103, 101, 102, 103, 104, 102, 103, 104, 105, 103, 104, 105, 106, 104, 105, 106, 107, 105, 106, 107, 108, 106, 107, 108, 109, 107, 108, 109, 110, 108, 109, 110, 111, 109, 110, 111, 112, 110, 111, 112, 113] (RV_new w (bs [97, 98, 99, 100, 98, 99, 100, 101, 99, 100, 101, 102, 100, 101, 102, 103, 101, 102, 103, 104, 102, 103, 104, 105, 103, 104, 105, 106, 104, 105, 106, 107, 105, 106, 107, 108, 106, 107, 108, 109, 107, 108, 109, 110, 108, 109, 110, 111, 109, 110, 111, 112, 110, 111, 112, 113]) 5 56 1 (56, 57) rfl (by decide)) 28
  have s1 : ∀ (W : World) (o : Obj), (W.alloc o).heap.size = W.heap.size + 1 := fun W o => by simp
  simp only [s1] at h
  exact h
theorem conv56 (w : World) : Sem.run Try.prog (convert 28 28 (.slice (some ⟨w.heap.size, 0, none⟩) 56 56)) (w.alloc (.cells #[.int .u8 97, .int .u8 98, .int .u8 99, .int .u8 100, .int .u8 98, .int .u8 99, .int .u8 100, .int .u8 101, .int .u8 99, .int .u8 100, .int .u8 101, .int .u8 102, .int .u8 100, .int .u8 101, .int .u8 102, .int .u8 103, .int .u8 101, .int .u8 102, .int .u8 103, .int .u8 104, .int .u8 102, .int .u8 103, .int .u8 104, .int .u8 105, .int .u8 103, .int .u8 104, .int .u8 105, .int .u8 106, .int .u8 104, .int .u8 105, .int .u8 106, .int .u8 107, .int .u8 105, .int .u8 106, .int .u8 107, .int .u8 108, .int .u8 106, .int .u8 107, .int .u8 108, .int .u8 109, .int .u8 107, .int .u8 108, .int .u8 109, .int .u8 110, .int .u8 108, .int .u8 109, .int .u8 110, .int .u8 111, .int .u8 109, .int .u8 110, .int .u8 111, .int .u8 112, .int .u8 110, .int .u8 111, .int .u8 112, .int .u8 113] 5)) = .ok (.slice (some ⟨w.heap.size, 0, none⟩) 56 56) (w.alloc (.cells #[.int .u8 97, .int .u8 98, .int .u8 99, .int .u8 100, .int .u8 98, .int .u8 99, .int .u8 100, .int .u8 101, .int .u8 99, .int .u8 100, .int .u8 101, .int .u8 102, .int .u8 100, .int .u8 101, .int .u8 102, .int .u8 103, .int .u8 101, .int .u8 102, .int .u8 103, .int .u8 104, .int .u8 102, .int .u8 103, .int .u8 104, .int .u8 105, .int .u8 103, .int .u8 104, .int .u8 105, .int .u8 106, .int .u8 104, .int .u8 105, .int .u8 106, .int .u8 107, .int .u8 105, .int .u8 106, .int .u8 107, .int .u8 108, .int .u8 106, .int .u8 107, .int .u8 108, .int .u8 109, .int .u8 107, .int .u8 108, .int .u8 109, .int .u8 110, .int .u8 108, .int .u8 109, .int .u8 110, .int .u8 111, .int .u8 109, .int .u8 110, .int .u8 111, .int .u8 112, .int .u8 110, .int .u8 111, .int .u8 112, .int .u8 113] 5 (56, 57))) := Lib.run_convert_bytes_const (P := Try.prog) w 28 5 _ 56 56 Try.underlying28 Try.underlying5
theorem rep_len (n : Nat) : (List.replicate n (97 : UInt8)).length = n := List.length_replicate ..
set_option maxHeartbeats 4000000 in
set_option maxRecDepth 100000 in
theorem shaKnown_walk (w : World) : Calls Try.prog 9 #[] w fun e w' => e = .returned (.bool true) ∧ Below w.heap.size w w' := by
  obtain ⟨D3, hD3⟩ : ∃ D, digest mil = D := ⟨_, rfl⟩
  obtain ⟨D4, hD4⟩ : ∃ D, digest [97, 98, 99, 100, 98, 99, 100, 101, 99, 100, 101, 102, 100, 101, 102, 103, 101, 102, 103, 104, 102, 103, 104, 105, 103, 104, 105, 106, 104, 105, 106, 107, 105, 106, 107, 108, 106, 107, 108, 109, 107, 108, 109, 110, 108, 109, 110, 111, 109, 110, 111, 112, 110, 111, 112, 113] = D := ⟨_, rfl⟩
  obtain ⟨T3, hT3⟩ : ∃ T : ByteArray, { data := #[99, 100, 99, 55, 54, 101, 53, 99, 57, 57, 49, 52, 102, 98, 57, 50, 56, 49, 97, 49, 99, 55, 101, 50, 56, 52, 100, 55, 51, 101, 54, 55, 102, 49, 56, 48, 57, 97, 52, 56, 97, 52, 57, 55, 50, 48, 48, 101, 48, 52, 54, 100, 51, 57, 99, 99, 99, 55, 49, 49, 50, 99, 100, 48] } = T := ⟨_, rfl⟩
  obtain ⟨T4, hT4⟩ : ∃ T : ByteArray, { data := #[50, 52, 56, 100, 54, 97, 54, 49, 100, 50, 48, 54, 51, 56, 98, 56, 101, 53, 99, 48, 50, 54, 57, 51, 48, 99, 51, 101, 54, 48, 51, 57, 97, 51, 51, 99, 101, 52, 53, 57, 54, 52, 102, 102, 50, 49, 54, 55, 102, 54, 101, 99, 101, 100, 100, 52, 49, 57, 100, 98, 48, 54, 99, 49] } = T := ⟨_, rfl⟩
  have hs4 : ∀ (W : World) (lv : Value), RBs W lv [[97, 98, 99, 100, 98, 99, 100, 101, 99, 100, 101, 102, 100, 101, 102, 103, 101, 102, 103, 104, 102, 103, 104, 105, 103, 104, 105, 106, 104, 105, 106, 107, 105, 106, 107, 108, 106, 107, 108, 109, 107, 108, 109, 110, 108, 109, 110, 111, 109, 110, 111, 112, 110, 111, 112, 113]] → Calls Try.prog 13 #[lv] W fun e w' => e = .returned (.agg (bs D4).toArray) ∧ Below W.heap.size W w' := fun W lv hr => by
    have h := sum_calls lv [[97, 98, 99, 100, 98, 99, 100, 101, 99, 100, 101, 102, 100, 101, 102, 103, 101, 102, 103, 104, 102, 103, 104, 105, 103, 104, 105, 106, 104, 105, 106, 107, 105, 106, 107, 108, 106, 107, 108, 109, 107, 108, 109, 110, 108, 109, 110, 111, 109, 110, 111, 112, 110, 111, 112, 113]] W hr (by simp) (by simp)
    rw [show ([[97, 98, 99, 100, 98, 99, 100, 101, 99, 100, 101, 102, 100, 101, 102, 103, 101, 102, 103, 104, 102, 103, 104, 105, 103, 104, 105, 106, 104, 105, 106, 107, 105, 106, 107, 108, 106, 107, 108, 109, 107, 108, 109, 110, 108, 109, 110, 111, 109, 110, 111, 112, 110, 111, 112, 113]] : List (List UInt8)).flatten = [97, 98, 99, 100, 98, 99, 100, 101, 99, 100, 101, 102, 100, 101, 102, 103, 101, 102, 103, 104, 102, 103, 104, 105, 103, 104, 105, 106, 104, 105, 106, 107, 105, 106, 107, 108, 106, 107, 108, 109, 107, 108, 109, 110, 108, 109, 110, 111, 109, 110, 111, 112, 110, 111, 112, 113] from rfl, hD4] at h
    exact h
  have hp4 : ∀ W : World, Calls Try.prog 24 #[.agg (bs D4).toArray] W fun e w' => e = .returned (.string T4) ∧ Below W.heap.size W w' := fun W => by
    have h := print_calls (digest [97, 98, 99, 100, 98, 99, 100, 101, 99, 100, 101, 102, 100, 101, 102, 103, 101, 102, 103, 104, 102, 103, 104, 105, 103, 104, 105, 106, 104, 105, 106, 107, 105, 106, 107, 108, 106, 107, 108, 109, 107, 108, 109, 110, 108, 109, 110, 111, 109, 110, 111, 112, 110, 111, 112, 113]) (digest_length _) W
    rw [str_56, hT4, hD4] at h
    exact h
  have hs3 : ∀ (W : World) (g : Nat), HS W W g mil (mil.length / 64) → Calls Try.prog 19 #[.pointer (some ⟨g, 0, none⟩)] W fun e w' => e = .returned (.agg (bs D3).toArray) ∧ Below W.heap.size W w' := fun W g hr => by
    have h := hsum_calls g mil W hr (by rw [mil_length]; omega)
    rw [hD3] at h
    exact h
  have hp3 : ∀ W : World, Calls Try.prog 24 #[.agg (bs D3).toArray] W fun e w' => e = .returned (.string T3) ∧ Below W.heap.size W w' := fun W => by
    have h := print_calls (digest mil) (digest_length _) W
    rw [str_mil, hT3, hD3] at h
    exact h
  have B3 := Aside0.mk hs3
  have B4 := Aside0.mk hs4
  have P3 := Aside0.mk hp3
  have P4 := Aside0.mk hp4
  have C3 := Aside0.mk hT3
  have C4 := Aside0.mk hT4
  clear hs3 hs4 hp3 hp4 hT3 hT4 hD3 hD4
  go_enter Try.func9, Try.ntmps9
  rw [C3.out, C4.out]
  go_wp2_with fail
  go_loopw [1, 2] (fun v i wr => ∃ k : Nat, k ≤ 1000 ∧ i = .int .i64 (k : Int) ∧ wr.ownsRow w.heap.size 5 1 v k (bs (List.replicate k 97)) ∧ Below w.heap.size w wr) (fun _ i _ => 1000 - (intOf i).toNat)
  case atStart => exact ⟨0, Nat.zero_le _, rfl, World.ownsRow_nil _ _ _ _, Below.refl _ _⟩
  case round =>
    obtain ⟨k, hk, rfl, hown, hb⟩ := hrel
    by_cases hlt : k < 1000
    · have hsucc : bs (List.replicate (k + 1) 97) = bs (List.replicate k 97) ++ [.int .u8 97] := by rw [List.replicate_succ', bs_append]; rfl
      have AS := Aside0.mk hsucc
      clear hsucc
      go_wp2_with (at_builtin; refine wpList_append_one (.tmp 9) (.tmp 10) 28 w.heap.size 5 (.int .u8 0) 1 Try.underlying28 info_u8 hown (.int .u8 97) rfl (by omega) hb.size rfl rfl rfl rfl rfl (by decide) ?_; intro v3 w3 ho3 hb3)
      go_roundw
      case rel => exact ⟨k + 1, by omega, by go_num, by rw [AS.out]; exact ho3, hb.trans hb3⟩
      case measure => simp [intOf]; omega
    · have hk1 : k = 1000 := by omega
      subst hk1
      obtain ⟨Aa, ca, rfl⟩ := (RV_own hown).slice
      have hRa : RV wr (.slice Aa 1000 ca) (List.replicate 1000 (97 : UInt8)).length 1 (bs (List.replicate 1000 97)) := by rw [rep_len]; exact RV_own hown
      have ARa := Aside0.mk hRa
      clear hown hRa
      go_wp2_with (go_at_call 17; refine (new_calls _).mono ?_; rintro e w1 ⟨rfl, hN1, hb1⟩)
      have hgx : w.heap.size ≤ wr.heap.size := hb.size
      obtain ⟨gx, hgxe⟩ : ∃ x, wr.heap.size = x := ⟨_, rfl⟩
      have hR1 := ARa.out.below hb1
      have hB1 := below_size2 hb hb1
      rw [hgxe] at hN1 hgx ⊢
      have hH0 : HS w1 w1 gx (List.replicate (1000 * 0) 97) (1000 * 0 / 64) := hN1
      clear ARa hb hb1 hN1 hgxe
      go_loopw [4] (fun i wz => ∃ k : Nat, k ≤ 1000 ∧ i = .int .i64 (k : Int) ∧ HS wz wz gx (List.replicate (1000 * k) 97) (1000 * k / 64) ∧ RV wz (.slice Aa 1000 ca) (List.replicate 1000 (97 : UInt8)).length 1 (bs (List.replicate 1000 97)) ∧ Below w.heap.size w wz) (fun i _ => 1000 - (intOf i).toNat)
      case atStart => exact ⟨0, Nat.zero_le _, rfl, hH0, hR1, hB1⟩
      case round =>
        clear hH0 hR1 hB1
        obtain ⟨k, hk, rfl, hH, hRk, hBk⟩ := hrel
        by_cases hlt : k < 1000
        · have hal := (Below.refl wr.heap.size wr).alloc (Nat.le_refl _) (.cells #[.slice Aa 1000 ca] 28)
          have hH2 := HS.now (HS.below hH hal)
          have hRB := rbs_k wr (.slice Aa 1000 ca) (List.replicate 1000 97) hRk 28
          have hR2 := RV.below hRk hal
          have hB2 := hBk.trans (hal.mono hBk.size)
          have hMM : List.replicate (1000 * k) (97 : UInt8) ++ [List.replicate 1000 (97 : UInt8)].flatten = List.replicate (1000 * (k + 1)) 97 := by rw [List.flatten_cons, List.flatten_nil, List.append_nil, List.replicate_append_replicate, Nat.mul_succ]
          have hlen : (List.replicate (1000 * k) (97 : UInt8) ++ [List.replicate 1000 (97 : UInt8)].flatten).length ≤ 70368744177664 := by rw [hMM, rep_len]; omega
          have AH := Aside0.mk hH2
          have ARB := Aside0.mk hRB
          have AR2 := Aside0.mk hR2
          have AB2 := Aside0.mk hB2
          have AMM := Aside0.mk hMM
          have AL := Aside0.mk hlen
          clear hal hH hRk hBk hH2 hRB hR2 hB2 hMM hlen
          go_wp2_with (go_at_call 18; refine (write_calls gx _ (List.replicate (1000 * k) 97) (1000 * k / 64) _ _ AH.out ARB.out AL.out (by simp)).mono ?_; rintro e w5 ⟨rfl, hS5⟩; rw [AMM.out, rep_len] at hS5; have hg5 := HS.grown hS5)
          have hH5 := HS.now hS5
          have hR5 : RV w5 (.slice Aa 1000 ca) (List.replicate 1000 (97 : UInt8)).length 1 (bs (List.replicate 1000 97)) := by
            obtain ⟨Hx, Ax, cx, hBlk, _⟩ := AH.out
            exact hBlk.bytes AR2.out hg5
          have hB5 : Below w.heap.size w w5 := AB2.out.grown hg5 AB2.out.size (fun q e => by rw [Option.some.injEq] at e; omega)
          clear AH ARB AR2 AB2 AMM AL hS5 hg5
          go_roundw
          case rel => exact ⟨k + 1, by omega, by go_num, hH5, hR5, hB5⟩
          case measure => simp [intOf]; omega
        · have hk1 : k = 1000 := by omega
          subst hk1
          have hHm : HS wr wr gx mil (mil.length / 64) := by
            have e : List.replicate (1000 * 1000) (97 : UInt8) = mil := rfl
            rw [e] at hH
            rw [mil_length]
            exact hH
          have AHm := Aside0.mk hHm
          have ABk := Aside0.mk hBk
          have hcv := conv56
          clear hH hRk hBk hHm
          go_wp2_with (first
            | (go_at_call 11; refine (awake_calls _).mono ?_; rintro e w6 ⟨rfl, hb6⟩)
            | (go_at_call 13; refine (B4.out _ _ (rbs_56 _)).mono ?_; rintro e w7 ⟨rfl, hb7⟩)
            | (go_at_call 24; first | (with_reducible refine (P4.out _).mono ?_; rintro e w8 ⟨rfl, hb8⟩) | (with_reducible refine (P3.out _).mono ?_; rintro e w10 ⟨rfl, hb10⟩))
            | (go_at_call 19; refine (B3.out _ gx (HS.now (HS.below (HS.now (HS.below (HS.now (HS.below (HS.now (HS.below (HS.now (HS.below AHm.out hb6)) ((Below.refl _ _).alloc (Nat.le_refl _) _))) ((Below.refl _ _).alloc (Nat.le_refl _) _))) hb7)) hb8))).mono ?_; rintro e w9 ⟨rfl, hb9⟩))
          go_ret
          have c6 := below_size2 ABk.out hb6
          have c7 := c6.alloc c6.size (.cells #[.int .u8 97, .int .u8 98, .int .u8 99, .int .u8 100, .int .u8 98, .int .u8 99, .int .u8 100, .int .u8 101, .int .u8 99, .int .u8 100, .int .u8 101, .int .u8 102, .int .u8 100, .int .u8 101, .int .u8 102, .int .u8 103, .int .u8 101, .int .u8 102, .int .u8 103, .int .u8 104, .int .u8 102, .int .u8 103, .int .u8 104, .int .u8 105, .int .u8 103, .int .u8 104, .int .u8 105, .int .u8 106, .int .u8 104, .int .u8 105, .int .u8 106, .int .u8 107, .int .u8 105, .int .u8 106, .int .u8 107, .int .u8 108, .int .u8 106, .int .u8 107, .int .u8 108, .int .u8 109, .int .u8 107, .int .u8 108, .int .u8 109, .int .u8 110, .int .u8 108, .int .u8 109, .int .u8 110, .int .u8 111, .int .u8 109, .int .u8 110, .int .u8 111, .int .u8 112, .int .u8 110, .int .u8 111, .int .u8 112, .int .u8 113] 5 (56, 57))
          have c8 := c7.alloc c7.size (.cells #[.slice (some ⟨w6.heap.size, 0, none⟩) 56 56] 28)
          exact ⟨rfl, below_size2 (below_size2 (below_size2 (below_size2 c8 hb7) hb8) hb9) hb10⟩
end Go.Proofs.Ythhandkckbnafaa
