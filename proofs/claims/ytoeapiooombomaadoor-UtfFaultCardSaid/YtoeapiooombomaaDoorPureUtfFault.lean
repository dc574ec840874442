/-
  UtfFault: the plain law: what the statement's function computes is true for every input.
-/
import Derived.Test.YtoeapiooombomaaDoorUtfRef2
set_option linter.unusedVariables false
set_option linter.unusedSimpArgs false
namespace Go.Proofs.YtoeapiooombomaaDoor.Pure
open Go.RowKit Go.Proofs.YtoeapiooombomaaDoor Go.Proofs.YtoeapiooombomaaDoor.Ref Go.Proofs.YtoeapiooombomaaDoorZ.ZA Go.Proofs.YtoeapiooombomaaDoorW.PrintWords
theorem UtfFault : incipitlaw08_UtfFault.Pure := by
  intro s hs
  have hs' : s.size ≤ 140737488351232 := hs
  refine Ev.rounds (r := true) ?_
  unfold incipitlaw08_UtfFault.f
  by_cases h : (s.size : Int) > 2000
  · simp only [if_pos h]
    exact bind1 awake_true (Ev.now _)
  · simp only [if_neg h]
    refine bind1 (fault_some s hs') ?_
    refine Ev.bind (ref_fault s hs') ?_
    rw [faultB_eq]
    simp only [if_true]
    refine bind1 (may_some s hs') ?_
    refine Ev.bind (ref_may s hs') ?_
    simp only [beq_self_eq_true, if_true]
    refine bind1 (small_some s hs') ?_
    refine Ev.bind (ref_small s hs') ?_
    simp only [if_true]
    exact bind1 awake_true (Ev.now _)
end Go.Proofs.YtoeapiooombomaaDoor.Pure
