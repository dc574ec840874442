/-
  WordsOne: the plain law.
-/
import Derived.Test.YtjeomkojpkienaaDoorWordsRef2
set_option linter.unusedVariables false
set_option linter.unusedSimpArgs false
namespace Go.Proofs.YtjeomkojpkienaaDoor.Pure
open Go.RowKit Go.Proofs.YtjeomkojpkienaaDoor Go.Proofs.YtjeomkojpkienaaDoor.Ref Go.Proofs.YtjeomkojpkienaaDoorZ.ZA Go.Proofs.YtjeomkojpkienaaDoorW.PrintWords
theorem WordsOne : incipitlaw09_WordsOne.Pure := by
  intro a l ha hl hs
  refine Ev.rounds (r := true) ?_
  unfold incipitlaw09_WordsOne.f
  obtain ⟨b, h1, h2⟩ := much_ev a l
  refine Ev.bind h1 ?_
  cases b with
  | true =>
    simp only [if_true]
    exact bind1 rfl (Ev.now _)
  | false =>
    obtain ⟨h3, h4, h5⟩ := h2 rfl
    simp only [Bool.false_eq_true, if_false]
    refine bind1 rfl ?_
    simp only [if_pos (show ([] : List ByteArray).length + l.length < 8796093022208 by rw [List.length_nil]; omega)]
    rw [List.nil_append]
    refine bind1 (one_some a l ha) ?_
    refine Ev.bind (ref_one a l (by omega) (by omega)) ?_
    simp only [beq_self_eq_true, if_true]
    exact bind1 rfl (Ev.now _)
end Go.Proofs.YtjeomkojpkienaaDoor.Pure
