/-
  ShaNobody: the walk of the law: a nil hash takes nothing, and sums nothing.
-/
import Derived.Test.YthhandkckbnafaaShaLaw
set_option linter.unusedVariables false
set_option linter.unusedSimpArgs false
namespace Go.Proofs.Ythhandkckbnafaa
open Go.RowKit Go.Proofs.YthhandkckbnafaaZ.ZA Go.Proofs.YthhandkckbnafaaW.PrintWords Go.Proofs.YthhandkckbnafaaW.PrintLast Go.Proofs.YthhandkckbnafaaW.PrintMore
theorem rbs_one (w : World) (v : Value) (x : List UInt8) (hv : RV w v x.length 1 (bs x)) (e : TypeId) : RBs (w.alloc (.cells #[v] e)) (.slice (some ⟨w.heap.size, 0, none⟩) 1 1) [x] := by
  refine ⟨[v], RV_new w [v] e 1 1 (0, 0) rfl (by decide), fun i u y hu hy => ?_⟩
  match i with
  | 0 => simp at hu hy; subst hu; subst hy; exact hv.alloc _
  | i + 1 => simp at hu
set_option maxHeartbeats 2000000 in
set_option maxRecDepth 100000 in
theorem shaNobody_walk (lv : Value) (l : List (List UInt8)) (w : World) (hlv : RBs w lv l) (_ : l.length ≤ 140737488355328) :
    Calls Try.prog 6 #[lv] w fun e w' => e = .returned (.bool true) ∧ Below w.heap.size w w' := by
  obtain ⟨D0, hD0⟩ : ∃ D, digest [] = D := ⟨_, rfl⟩
  have hDl : D0.length = 32 := by rw [← hD0]; exact digest_length _
  have hs0 : ∀ W : World, Calls Try.prog 19 #[.pointer none] W fun e w' => e = .returned (.agg (bs D0).toArray) ∧ Below W.heap.size W w' := fun W => by rw [← hD0]; exact hsum_nil W
  have hr0 : ∀ W : World, Calls Try.prog 15 #[.slice (some ⟨W.heap.size, 0, none⟩) 1 1] (W.alloc (.cells #[.slice none 0 0] 28)) fun e w' => e = .returned (.agg (bs D0).toArray) ∧ Below (W.alloc (.cells #[.slice none 0 0] 28)).heap.size (W.alloc (.cells #[.slice none 0 0] 28)) w' := fun W => by
    have h := refSum_digest _ [[]] _ (rbs_one W (.slice none 0 0) [] (RV_nil W 1) 28) (by simp)
    rw [show ([[]] : List (List UInt8)).flatten = [] from rfl, hD0] at h
    exact h
  have eDD := fun w => arr_eq 9998 D0 D0 hDl hDl w
  rw [beq_self_eq_true] at eDD
  have hg := guard32
  generalize bs D0 = BD at hs0 hr0 eDD
  have B0 := Aside0.mk hs0
  have B1 := Aside0.mk hr0
  have AL := Aside0.mk hlv
  clear hs0 hr0 hD0 hDl
  go_enter Try.func6, Try.ntmps6
  go_wp2_with (first
    | (go_at_call 10; refine (much_calls lv l _ AL.out).mono ?_; rintro e w1 ⟨b, rfl, rfl, hmuch⟩; cases b; (have AMU := Aside0.mk (hmuch rfl); clear hmuch); rotate_left; clear hmuch)
    | (go_at_call 12; refine (copied_calls lv l _ AL.out AMU.out.1 AMU.out.2).mono ?_; rintro e w2 ⟨v2, rfl, hv2, hb2⟩; clear hv2)
    | (go_at_call 18; refine (write_nil _ _).mono ?_; rintro e w3 ⟨rfl, hb3⟩)
    | (go_at_call 21; refine (len_nil _).mono ?_; rintro e w4 ⟨rfl, hb4⟩)
    | (go_at_call 19; refine (B0.out _).mono ?_; rintro e w5 ⟨rfl, hb5⟩)
    | (go_at_call 15; refine (B1.out _).mono ?_; rintro e w6 ⟨rfl, hb6⟩)
    | (go_at_call 20; refine (copy_nil _).mono ?_; rintro e w7 ⟨rfl, hb7⟩)
    | (go_at_call 11; refine (awake_calls _).mono ?_; rintro e w8 ⟨rfl, hb8⟩))
  all_goals go_ret
  all_goals first
    | (have c5 := below_size2 (below_size2 (below_size2 hb2 hb3) hb4) hb5; exact ⟨rfl, below_size2 (below_size2 (below_size2 (c5.alloc c5.size (.cells #[.slice none 0 0] 28)) hb6) hb7) hb8⟩)
    | exact ⟨rfl, hb8⟩
end Go.Proofs.Ythhandkckbnafaa
