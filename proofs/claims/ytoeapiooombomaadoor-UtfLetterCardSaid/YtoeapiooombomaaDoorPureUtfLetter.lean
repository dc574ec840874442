/-
  UtfLetter: the plain law: what the statement's function computes is true for every input.
-/
import Derived.Test.YtoeapiooombomaaDoorUtfRef2
set_option linter.unusedVariables false
set_option linter.unusedSimpArgs false
namespace Go.Proofs.YtoeapiooombomaaDoor.Pure
open Go.RowKit Go.Proofs.YtoeapiooombomaaDoor Go.Proofs.YtoeapiooombomaaDoor.Ref Go.Proofs.YtoeapiooombomaaDoorZ.ZA Go.Proofs.YtoeapiooombomaaDoorW.PrintWords
theorem letter_some (c : Int) : utf_Letter.f c = some (letterB c) := rfl
theorem loop (c : Int) : ∀ (d : Nat) (x : Int), -2 ≤ x → x ≤ 3 → (3 - x).toNat = d → Ev (fun k => incipitlaw08_UtfLetter.l0 k c x) true := by
  intro d
  induction d with
  | zero =>
    intro x h1 h2 hd
    refine ev1 _ (fun k => by simp only [incipitlaw08_UtfLetter.l0]; rfl) ?_
    simp only [if_neg (show ¬ x ≤ 2 by omega)]
    refine bind1 (letter_some c) ?_
    refine Ev.bind (ref_letter c) ?_
    simp only [beq_self_eq_true, if_true]
    exact bind1 awake_true (Ev.now _)
  | succ d ih =>
    intro x h1 h2 hd
    refine ev1 _ (fun k => by simp only [incipitlaw08_UtfLetter.l0]; rfl) ?_
    simp only [if_pos (show x ≤ 2 by omega)]
    refine bind1 (letter_some _) ?_
    refine Ev.bind (ref_letter _) ?_
    simp only [bne_self_eq_false, Bool.false_eq_true, if_false]
    rw [w64 (by omega) (by omega)]
    exact ih (x + 1) (by omega) (by omega) (by omega)
theorem UtfLetter : incipitlaw08_UtfLetter.Pure := by
  intro c hc
  refine Ev.rounds (r := true) ?_
  unfold incipitlaw08_UtfLetter.f
  exact loop c _ (-2) (by omega) (by omega) rfl
end Go.Proofs.YtoeapiooombomaaDoor.Pure
