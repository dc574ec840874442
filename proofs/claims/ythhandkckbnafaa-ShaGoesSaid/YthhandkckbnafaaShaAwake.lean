/-
  The walk of the chapter's examples (awake): they hold.
-/
import Derived.Test.YthhandkckbnafaaShaEval
import Derived.Lib.SlBytesConst
set_option linter.unusedVariables false
set_option linter.unusedSimpArgs false
namespace Go.Proofs.Ythhandkckbnafaa
open Go.RowKit Go.Proofs.YthhandkckbnafaaZ.ZA Go.Proofs.YthhandkckbnafaaW.PrintWords Go.Proofs.YthhandkckbnafaaW.PrintLast Go.Proofs.YthhandkckbnafaaW.PrintMore
theorem rbs0 (w : World) : RBs w (.slice none 0 0) [] := ⟨[], RV_nil w 1, fun i v x h => by simp at h⟩
theorem rbs2 {w : World} {v1 v2 : Value} {n1 n2 : Nat} {x1 x2 : List UInt8} (h1 : RV w v1 n1 1 (bs x1)) (h2 : RV w v2 n2 1 (bs x2)) {e : TypeId} : RBs (w.alloc (.cells #[v1, v2] e)) (.slice (some ⟨w.heap.size, 0, none⟩) 2 2) [x1, x2] := by
  have l1 := h1.len
  have l2 := h2.len
  rw [bs_length, Nat.mul_one] at l1 l2
  subst l1; subst l2
  refine ⟨[v1, v2], RV_new w [v1, v2] e 2 1 (0, 0) rfl (by decide), fun i v x hv hx => ?_⟩
  match i with
  | 0 => simp at hv hx; subst hv; subst hx; exact h1.alloc _
  | 1 => simp at hv hx; subst hv; subst hx; exact h2.alloc _
  | i + 2 => simp at hv
theorem str_none : st (hexs (digest [])) = { data := #[101, 51, 98, 48, 99, 52, 52, 50, 57, 56, 102, 99, 49, 99, 49, 52, 57, 97, 102, 98, 102, 52, 99, 56, 57, 57, 54, 102, 98, 57, 50, 52, 50, 55, 97, 101, 52, 49, 101, 52, 54, 52, 57, 98, 57, 51, 52, 99, 97, 52, 57, 53, 57, 57, 49, 98, 55, 56, 53, 50, 98, 56, 53, 53] } := by rw [dig_none]; rfl
theorem str_abc : st (hexs (digest [97, 98, 99])) = { data := #[98, 97, 55, 56, 49, 54, 98, 102, 56, 102, 48, 49, 99, 102, 101, 97, 52, 49, 52, 49, 52, 48, 100, 101, 53, 100, 97, 101, 50, 50, 50, 51, 98, 48, 48, 51, 54, 49, 97, 51, 57, 54, 49, 55, 55, 97, 57, 99, 98, 52, 49, 48, 102, 102, 54, 49, 102, 50, 48, 48, 49, 53, 97, 100] } := by rw [dig_abc]; rfl
theorem rbs_abc (w : World) : RBs (((w.alloc (.cells #[.int .u8 97] 5 (1, 2))).alloc (.cells #[.int .u8 98, .int .u8 99] 5 (2, 3))).alloc (.cells #[.slice (some ⟨w.heap.size, 0, none⟩) 1 1, .slice (some ⟨w.heap.size + 1, 0, none⟩) 2 2] 28)) (.slice (some ⟨w.heap.size + 2, 0, none⟩) 2 2) [[97], [98, 99]] := by
  have h1 := (RV_new w (bs [97]) 5 1 1 (1, 2) rfl (by decide)).alloc (.cells #[.int .u8 98, .int .u8 99] 5 (2, 3))
  have h2 := RV_new (w.alloc (.cells #[.int .u8 97] 5 (1, 2))) (bs [98, 99]) 5 2 1 (2, 3) rfl (by decide)
  have h := rbs2 (e := 28) h1 h2
  have s1 : ∀ (W : World) (o : Obj), (W.alloc o).heap.size = W.heap.size + 1 := fun W o => by simp
  simp only [s1] at h
  exact h
theorem conv1 (w : World) : Sem.run Try.prog (convert 28 28 (.slice (some ⟨w.heap.size, 0, none⟩) 1 1)) (w.alloc (.cells #[.int .u8 97] 5)) = .ok (.slice (some ⟨w.heap.size, 0, none⟩) 1 1) (w.alloc (.cells #[.int .u8 97] 5 (1, 2))) := Lib.run_convert_bytes_const (P := Try.prog) w 28 5 _ 1 1 Try.underlying28 Try.underlying5
theorem conv2 (w : World) : Sem.run Try.prog (convert 28 28 (.slice (some ⟨w.heap.size, 0, none⟩) 2 2)) (w.alloc (.cells #[.int .u8 98, .int .u8 99] 5)) = .ok (.slice (some ⟨w.heap.size, 0, none⟩) 2 2) (w.alloc (.cells #[.int .u8 98, .int .u8 99] 5 (2, 3))) := Lib.run_convert_bytes_const (P := Try.prog) w 28 5 _ 2 2 Try.underlying28 Try.underlying5
set_option maxHeartbeats 4000000 in
set_option maxRecDepth 100000 in
theorem awake_calls (w : World) : Calls Try.prog 11 #[] w fun e w' => e = .returned (.bool true) ∧ Below w.heap.size w w' := by
  have hok : rdOk (tb { data := #[48] }) = false := by decide
  have hone : ∀ u ∈ bs (rdO (tb { data := #[48] })), u.oneCell' = true := bs_one _
  have hl32 : (Try.prog.info? 26).map (·.size) = some (bs (rdO (tb { data := #[48] }))).length := size32
  have hcv1 := conv1
  have hcv2 : ∀ w : World, _ := fun w => conv2 (w.alloc (.cells #[.int .u8 97] 5 (1, 2)))
  have s1 : ∀ (W : World) (o : Obj), (W.alloc o).heap.size = W.heap.size + 1 := fun W o => by simp
  simp only [s1] at hcv2
  have hf0 : ([] : List (List UInt8)).flatten.length ≤ 35184372088832 := by simp
  have hf3 : ([[97], [98, 99]] : List (List UInt8)).flatten.length ≤ 35184372088832 := by simp
  have hf4 : ([[97], [98, 99]] : List (List UInt8)).length ≤ 1000000000 := by simp
  have hf5 : ([] : List (List UInt8)).length ≤ 1000000000 := by simp
  have A0 := Aside0.mk hf0
  have A3 := Aside0.mk hf3
  have A4 := Aside0.mk hf4
  have A5 := Aside0.mk hf5
  clear hf0 hf3 hf4 hf5 s1
  obtain ⟨D0, hD0⟩ : ∃ D, digest [] = D := ⟨_, rfl⟩
  obtain ⟨D1, hD1⟩ : ∃ D, digest [97, 98, 99] = D := ⟨_, rfl⟩
  obtain ⟨T0, hT0⟩ : ∃ T : ByteArray, { data := #[101, 51, 98, 48, 99, 52, 52, 50, 57, 56, 102, 99, 49, 99, 49, 52, 57, 97, 102, 98, 102, 52, 99, 56, 57, 57, 54, 102, 98, 57, 50, 52, 50, 55, 97, 101, 52, 49, 101, 52, 54, 52, 57, 98, 57, 51, 52, 99, 97, 52, 57, 53, 57, 57, 49, 98, 55, 56, 53, 50, 98, 56, 53, 53] } = T := ⟨_, rfl⟩
  obtain ⟨T1, hT1⟩ : ∃ T : ByteArray, { data := #[98, 97, 55, 56, 49, 54, 98, 102, 56, 102, 48, 49, 99, 102, 101, 97, 52, 49, 52, 49, 52, 48, 100, 101, 53, 100, 97, 101, 50, 50, 50, 51, 98, 48, 48, 51, 54, 49, 97, 51, 57, 54, 49, 55, 55, 97, 57, 99, 98, 52, 49, 48, 102, 102, 54, 49, 102, 50, 48, 48, 49, 53, 97, 100] } = T := ⟨_, rfl⟩
  have hs0 : ∀ W : World, Calls Try.prog 13 #[.slice none 0 0] W fun e w' => e = .returned (.agg (bs D0).toArray) ∧ Below W.heap.size W w' := fun W => by
    have h := sum_calls (.slice none 0 0) [] W (rbs0 W) A0.out A5.out
    rw [show ([] : List (List UInt8)).flatten = [] from rfl, hD0] at h
    exact h
  have hs1 : ∀ (W : World) (lv : Value), RBs W lv [[97], [98, 99]] → Calls Try.prog 13 #[lv] W fun e w' => e = .returned (.agg (bs D1).toArray) ∧ Below W.heap.size W w' := fun W lv hr => by
    have h := sum_calls lv [[97], [98, 99]] W hr A3.out A4.out
    rw [show ([[97], [98, 99]] : List (List UInt8)).flatten = [97, 98, 99] from rfl, hD1] at h
    exact h
  have hp0 : ∀ W : World, Calls Try.prog 24 #[.agg (bs D0).toArray] W fun e w' => e = .returned (.string T0) ∧ Below W.heap.size W w' := fun W => by
    have h := print_calls (digest []) (digest_length _) W
    rw [str_none, hT0, hD0] at h
    exact h
  have hp1 : ∀ W : World, Calls Try.prog 24 #[.agg (bs D1).toArray] W fun e w' => e = .returned (.string T1) ∧ Below W.heap.size W w' := fun W => by
    have h := print_calls (digest [97, 98, 99]) (digest_length _) W
    rw [str_abc, hT1, hD1] at h
    exact h
  have hr0 : ∀ W : World, Calls Try.prog 22 #[.string { data := #[48] }] W fun e w' => e = .returned (.tuple #[.agg (bs (rdO (tb { data := #[48] }))).toArray, .bool false]) ∧ Below W.heap.size W w' := fun W => by
    have h := read_calls { data := #[48] } W
    rw [hok] at h
    exact h
  generalize hRD : bs (rdO (tb { data := #[48] })) = RD at hone hl32 hr0
  have hRDs : RD.length = 32 := by rw [← hRD]; rfl
  have B0 := Aside0.mk hs0
  have B1 := Aside0.mk hs1
  have B2 := Aside0.mk hp0
  have B3 := Aside0.mk hp1
  have B4 := Aside0.mk hr0
  have B5 := Aside0.mk hone
  have B6 := Aside0.mk hl32
  have B7 := Aside0.mk hRDs
  have C0 := Aside0.mk hT0
  have C1 := Aside0.mk hT1
  clear hs0 hs1 hp0 hp1 hr0 hone hl32 hRD hT0 hT1 hD0 hD1 hok hRDs A0 A3 A4 A5
  go_enter Try.func11, Try.ntmps11
  rw [C0.out, C1.out]
  go_wp2_with (first
    | (go_at_call 22; refine (B4.out _).mono ?_; rintro e w1 ⟨rfl, hb1⟩)
    | (go_at_call 13; first | (with_reducible refine (B0.out _).mono ?_; rintro e w2 ⟨rfl, hb2⟩) | (refine (B1.out _ _ (rbs_abc _)).mono ?_; rintro e w4 ⟨rfl, hb4⟩))
    | (go_at_call 24; first | (with_reducible refine (B2.out _).mono ?_; rintro e w3 ⟨rfl, hb3⟩) | (with_reducible refine (B3.out _).mono ?_; rintro e w5 ⟨rfl, hb5⟩))
    | (refine wpList_store_new 26 (.tmp 1) (.tmp 5) _ RD B6.out (B7.out.symm ▸ by rfl) B5.out rfl rfl rfl rfl ?_))
  go_ret
  have c0 := hb1.alloc hb1.size (.cells RD.toArray 26)
  have c1 := Go.Proofs.Ythhandkckbnafaa.below_size (Go.Proofs.Ythhandkckbnafaa.below_size c0 hb2) hb3
  have c2 := c1.alloc c1.size (.cells #[.int .u8 97] 5 (1, 2))
  have c3 := c2.alloc c2.size (.cells #[.int .u8 98, .int .u8 99] 5 (2, 3))
  have c4 := c3.alloc c3.size (.cells #[.slice (some ⟨w3.heap.size, 0, none⟩) 1 1, .slice (some ⟨w3.heap.size + 1, 0, none⟩) 2 2] 28)
  exact ⟨rfl, Go.Proofs.Ythhandkckbnafaa.below_size (Go.Proofs.Ythhandkckbnafaa.below_size c4 hb4) hb5⟩

end Go.Proofs.Ythhandkckbnafaa
