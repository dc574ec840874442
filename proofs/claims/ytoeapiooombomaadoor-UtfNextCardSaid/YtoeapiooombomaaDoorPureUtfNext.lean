/-
  UtfNext: the plain law: what the statement's function computes is true for every input.
-/
import Derived.Test.YtoeapiooombomaaDoorUtfRef2
set_option linter.unusedVariables false
set_option linter.unusedSimpArgs false
namespace Go.Proofs.YtoeapiooombomaaDoor.Pure
open Go.RowKit Go.Proofs.YtoeapiooombomaaDoor Go.Proofs.YtoeapiooombomaaDoor.Ref Go.Proofs.YtoeapiooombomaaDoorZ.ZA Go.Proofs.YtoeapiooombomaaDoorW.PrintWords
theorem next_some (s : ByteArray) (i : Int) : utf_Next.f s i = some (nextB s i) := rfl
theorem loop (s : ByteArray) (i : Int) (hs : s.size ≤ 140737488351232) : ∀ (d : Nat) (x : Int), -1 ≤ x → x ≤ (s.size : Int) + 2 → ((s.size : Int) + 2 - x).toNat = d → Ev (fun k => incipitlaw08_UtfNext.l0 k s i x) true := by
  intro d
  induction d with
  | zero =>
    intro x h1 h2 hd
    refine ev1 _ (fun k => by simp only [incipitlaw08_UtfNext.l0]; rfl) ?_
    rw [w64 (by omega) (by omega)]
    simp only [if_neg (show ¬ x ≤ (s.size : Int) + 1 by omega)]
    exact bind1 awake_true (Ev.now _)
  | succ d ih =>
    intro x h1 h2 hd
    have key : ∀ z : Int, Ev (fun k => incipitlaw08_UtfNext.j1 k s i x z) true := by
      intro z
      refine ev1 _ (fun k => by simp only [incipitlaw08_UtfNext.j1]; rfl) ?_
      refine bind1 (next_some s z) ?_
      refine Ev.bind (ref_next s z hs) ?_
      simp only [if_true]
      rw [w64 (by omega) (by omega)]
      exact ih (x + 1) (by omega) (by omega) (by omega)
    refine ev1 _ (fun k => by simp only [incipitlaw08_UtfNext.l0]; rfl) ?_
    rw [w64 (by omega) (by omega)]
    simp only [if_pos (show x ≤ (s.size : Int) + 1 by omega)]
    by_cases h0 : x < 0
    · simp only [if_pos h0]
      exact key i
    · simp only [if_neg h0]
      exact key x
theorem UtfNext : incipitlaw08_UtfNext.Pure := by
  intro s i hs hi
  refine Ev.rounds (r := true) ?_
  unfold incipitlaw08_UtfNext.f
  by_cases h : (s.size : Int) > 2000
  · simp only [if_pos h]
    exact bind1 awake_true (Ev.now _)
  · simp only [if_neg h]
    exact loop s i hs _ (-1) (by omega) (by omega) rfl
end Go.Proofs.YtoeapiooombomaaDoor.Pure
