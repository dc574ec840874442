/-
  UtfSmall: the plain law: what the statement's function computes is true for every input.
-/
import Derived.Test.YtoeapiooombomaaDoorUtfRef2
set_option linter.unusedVariables false
set_option linter.unusedSimpArgs false
namespace Go.Proofs.YtoeapiooombomaaDoor.Pure
open Go.RowKit Go.Proofs.YtoeapiooombomaaDoor Go.Proofs.YtoeapiooombomaaDoor.Ref Go.Proofs.YtoeapiooombomaaDoorZ.ZA Go.Proofs.YtoeapiooombomaaDoorW.PrintWords
theorem tb_smallT (s : ByteArray) : tb (smallT s) = smallL (tb s) := tb_st _
theorem small_size (s : ByteArray) : (smallT s).size = s.size := by rw [← tb_length, tb_smallT, smallL, List.length_map, tb_length]
theorem small_bt (s : ByteArray) (i : Nat) : bt (smallT s) (i : Int) = ((lowB ((tb s).getD i 0)).toNat : Int) := by rw [bt_nat, tb_smallT, getD_small]
theorem loop (s : ByteArray) (hs : s.size ≤ 140737488351232) : ∀ (d i : Nat), s.size - i ≤ d → i ≤ s.size → Ev (fun k => incipitlaw08_UtfSmall.l0 k s (smallT s) (i : Int)) true := by
  intro d
  induction d with
  | zero =>
    intro i hd hi
    refine ev1 _ (fun k => by simp only [incipitlaw08_UtfSmall.l0]; rfl) ?_
    rw [small_size]
    simp only [if_neg (show ¬ (i : Int) < (s.size : Int) by omega)]
    exact bind1 awake_true (Ev.now _)
  | succ d ih =>
    intro i hd hi
    by_cases hlt : i < s.size
    · have hn := ih (i + 1) (by omega) (by omega)
      have e : wrap64 ((i : Int) + 1) = ((i + 1 : Nat) : Int) := by rw [w64 (by omega) (by omega)]; rfl
      refine ev1 _ (fun k => by simp only [incipitlaw08_UtfSmall.l0]; rfl) ?_
      rw [small_size, small_bt, bt_nat, e]
      have hb := ((tb s).getD i 0).toNat_lt
      rw [lowB_nat]
      generalize ((tb s).getD i 0).toNat = b at hb ⊢
      simp only [if_pos (show (i : Int) < (s.size : Int) by omega), if_pos (show (0 : Int) ≤ (i : Int) by omega)]
      by_cases c : 65 ≤ b ∧ b ≤ 90
      · simp only [if_pos c, if_pos (show ((b + 32 : Nat) : Int) ≥ 65 by omega), if_neg (show ¬ ((b + 32 : Nat) : Int) ≤ 90 by omega), if_neg (show ¬ ((b + 32 : Nat) : Int) = (b : Int) by omega), if_neg (show ¬ (b : Int) < 65 by omega), if_neg (show ¬ (b : Int) > 90 by omega)]
        exact hn
      · simp only [if_neg c, if_true]
        by_cases c2 : (b : Int) ≥ 65
        · simp only [if_pos c2, if_neg (show ¬ (b : Int) ≤ 90 by omega)]
          exact hn
        · simp only [if_neg c2]
          exact hn
    · refine ev1 _ (fun k => by simp only [incipitlaw08_UtfSmall.l0]; rfl) ?_
      rw [small_size]
      simp only [if_neg (show ¬ (i : Int) < (s.size : Int) by omega)]
      exact bind1 awake_true (Ev.now _)
theorem UtfSmall : incipitlaw08_UtfSmall.Pure := by
  intro s hs
  refine Ev.rounds (r := true) ?_
  unfold incipitlaw08_UtfSmall.f
  by_cases h : (s.size : Int) > 2000
  · simp only [if_pos h]
    exact bind1 awake_true (Ev.now _)
  · simp only [if_neg h]
    refine bind1 (small_some s hs) ?_
    rw [small_size]
    simp only [if_true]
    refine bind1 (small_some (smallT s) (by rw [small_size]; exact hs)) ?_
    have e : (smallT (smallT s)).toList = (smallT s).toList := by rw [text_eq, tb_smallT, tb_smallT, small_small]
    simp only [if_pos e]
    refine bind1 (fault_some (smallT s) (by rw [small_size]; exact hs)) ?_
    refine bind1 (fault_some s hs) ?_
    rw [tb_smallT, fault_small _ _ (Nat.le_refl _), bne_self_eq_false]
    refine ev1 _ (fun k => by simp only [incipitlaw08_UtfSmall.j0]; rfl) ?_
    simp only [Bool.false_eq_true, if_false]
    exact loop s hs s.size 0 (by omega) (by omega)
end Go.Proofs.YtoeapiooombomaaDoor.Pure
