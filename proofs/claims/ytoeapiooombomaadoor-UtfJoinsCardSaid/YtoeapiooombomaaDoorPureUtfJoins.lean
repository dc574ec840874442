/-
  UtfJoins: the plain law: what the statement's function computes is true for every input.
-/
import Derived.Test.YtoeapiooombomaaDoorUtfRef2
set_option linter.unusedVariables false
set_option linter.unusedSimpArgs false
namespace Go.Proofs.YtoeapiooombomaaDoor.Pure
open Go.RowKit Go.Proofs.YtoeapiooombomaaDoor Go.Proofs.YtoeapiooombomaaDoor.Ref Go.Proofs.YtoeapiooombomaaDoorZ.ZA Go.Proofs.YtoeapiooombomaaDoorW.PrintWords
theorem fault_cut (l : List UInt8) : faultL (l.take (faultL l)) = faultL l := by
  have := fault_join l.length l [] (Nat.le_refl _)
  rw [List.append_nil, faultL_nil] at this
  exact this
theorem UtfJoins : incipitlaw08_UtfJoins.Pure := by
  intro a b ha hb
  refine Ev.rounds (r := true) ?_
  unfold incipitlaw08_UtfJoins.f
  by_cases h1 : (a.size : Int) > 2000
  · simp only [if_pos h1]
    refine ev1 _ (fun k => by simp only [incipitlaw08_UtfJoins.j0]; rfl) ?_
    simp only [if_true]
    exact bind1 awake_true (Ev.now _)
  · simp only [if_neg h1]
    refine ev1 _ (fun k => by simp only [incipitlaw08_UtfJoins.j0]; rfl) ?_
    by_cases h2 : (b.size : Int) > 2000
    · simp only [decide_eq_true h2, if_true]
      exact bind1 awake_true (Ev.now _)
    · simp only [decide_eq_false h2, Bool.false_eq_true, if_false]
      have ea := faultL_le (tb a).length (tb a) (Nat.le_refl _)
      have eb := faultL_le (tb b).length (tb b) (Nat.le_refl _)
      rw [tb_length] at ea eb
      refine bind1 (fault_some a (by omega)) ?_
      refine bind1 (fault_some b (by omega)) ?_
      obtain ⟨x, hx⟩ : ∃ x, faultL (tb a) = x := ⟨_, rfl⟩
      obtain ⟨y, hy⟩ : ∃ y, faultL (tb b) = y := ⟨_, rfl⟩
      rw [hx] at ea
      rw [hy] at eb
      rw [hx, hy]
      simp only [if_neg (show ¬ (x : Int) < 0 by omega), if_neg (show ¬ (x : Int) > (a.size : Int) by omega), if_neg (show ¬ (y : Int) < 0 by omega), decide_eq_false (show ¬ (y : Int) > (b.size : Int) by omega)]
      refine ev1 _ (fun k => by simp only [incipitlaw08_UtfJoins.j1]; rfl) ?_
      simp only [Bool.false_eq_true, if_false, if_pos (show (0 : Int) ≤ (x : Int) by omega), if_pos (show (x : Int) ≤ (a.size : Int) by omega), Int.toNat_natCast]
      have htb : tb (a.extract 0 x) = (tb a).take x := by rw [tb_extract, List.drop_zero, Nat.sub_zero]
      have hsz : (a.extract 0 x).size = x := by rw [← tb_length, htb, List.length_take, tb_length]; omega
      have e1 : utf_Fault.f (a.extract 0 x) = some (x : Int) := by
        rw [fault_some _ (by omega), htb, ← hx, fault_cut]
      have e2 : utf_Fault.f (a.extract 0 x ++ b) = some ((x + y : Nat) : Int) := by
        rw [fault_some _ (by rw [ByteArray.size_append]; omega), tb_append, htb, ← hx, fault_join _ _ _ (Nat.le_refl _), hy]
      refine bind1 e1 ?_
      simp only [if_true, if_pos (show (a.extract 0 x).size + b.size ≤ 9223372036854775807 by omega)]
      refine bind1 e2 ?_
      rw [w64 (by omega) (by omega)]
      simp only [if_pos (show ((x + y : Nat) : Int) = (x : Int) + (y : Int) by omega)]
      exact bind1 awake_true (Ev.now _)
end Go.Proofs.YtoeapiooombomaaDoor.Pure
