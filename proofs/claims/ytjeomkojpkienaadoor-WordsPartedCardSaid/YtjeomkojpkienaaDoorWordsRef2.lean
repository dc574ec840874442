/-
  The plain law of words: the statements' own small functions.
-/
import Derived.Test.YtjeomkojpkienaaDoorWordsRef
set_option linter.unusedVariables false
set_option linter.unusedSimpArgs false
namespace Go.Proofs.YtjeomkojpkienaaDoor.Ref
open Go.RowKit Go.Proofs.YtjeomkojpkienaaDoor Go.Proofs.YtjeomkojpkienaaDoorZ.ZA Go.Proofs.YtjeomkojpkienaaDoorW.PrintWords

theorem rd_text (l : List ByteArray) (i : Nat) (h : i < l.length) : rdOf ByteArray.empty l (i : Int) = l[i] := by simp [rdOf, List.getD, h]
theorem much_from (l : List ByteArray) (hl : l.length ≤ 100) : ∀ (d i : Nat), l.length - i = d → i ≤ l.length → ∃ b, Ev (fun k => incipitlaw09_much.l0 k l (i : Int)) b ∧ (b = false → ∀ x ∈ l.drop i, x.size ≤ 100) := by
  intro d
  induction d with
  | zero =>
    intro i hd hi
    refine ⟨false, ?_, fun _ => by rw [List.drop_of_length_le (by omega)]; simp⟩
    refine ev1 _ (fun k => by simp only [incipitlaw09_much.l0]; rfl) ?_
    simp only [if_neg (show ¬ (i : Int) < (l.length : Int) by omega)]
    exact Ev.now _
  | succ d ih =>
    intro i hd hi
    have hlt : i < l.length := by omega
    by_cases h1 : 100 < l[i].size
    · refine ⟨true, ?_, fun h => by cases h⟩
      refine ev1 _ (fun k => by simp only [incipitlaw09_much.l0]; rfl) ?_
      simp only [if_pos (show (i : Int) < (l.length : Int) by omega), if_pos (show (0 : Int) ≤ (i : Int) by omega), rd_text l i hlt, if_pos (show (l[i].size : Int) > 100 by omega)]
      exact Ev.now _
    · obtain ⟨b, h2, h3⟩ := ih (i + 1) (by omega) (by omega)
      refine ⟨b, ?_, fun hb x hx => ?_⟩
      · refine ev1 _ (fun k => by simp only [incipitlaw09_much.l0]; rfl) ?_
        simp only [if_pos (show (i : Int) < (l.length : Int) by omega), if_pos (show (0 : Int) ≤ (i : Int) by omega), rd_text l i hlt, if_neg (show ¬ (l[i].size : Int) > 100 by omega)]
        rw [w64 (by omega) (by omega)]
        exact h2
      · rw [List.drop_eq_getElem_cons hlt] at hx
        rcases List.mem_cons.1 hx with rfl | hx
        · omega
        · exact h3 hb x hx
theorem much_ev (a : ByteArray) (l : List ByteArray) : ∃ b, Ev (fun k => incipitlaw09_much.f k a l) b ∧ (b = false → a.size ≤ 2000 ∧ l.length ≤ 100 ∧ ∀ x ∈ l, x.size ≤ 100) := by
  unfold incipitlaw09_much.f
  by_cases h1 : (a.size : Int) > 2000
  · refine ⟨true, ?_, fun h => by cases h⟩
    simp only [if_pos h1]
    refine ev1 _ (fun k => by simp only [incipitlaw09_much.j0]; rfl) ?_
    simp only [if_true]
    exact Ev.now _
  · by_cases h2 : (l.length : Int) > 100
    · refine ⟨true, ?_, fun h => by cases h⟩
      simp only [if_neg h1, decide_eq_true h2]
      refine ev1 _ (fun k => by simp only [incipitlaw09_much.j0]; rfl) ?_
      simp only [if_true]
      exact Ev.now _
    · obtain ⟨b, h3, h4⟩ := much_from l (by omega) l.length 0 (by omega) (by omega)
      refine ⟨b, ?_, fun hb => ⟨by omega, by omega, by simpa using h4 hb⟩⟩
      simp only [if_neg h1, decide_eq_false h2]
      refine ev1 _ (fun k => by simp only [incipitlaw09_much.j0]; rfl) ?_
      simp only [Bool.false_eq_true, if_false]
      exact h3
theorem same_from (l : List S36) (hl : l.length ≤ 1000000) : ∀ (d i : Nat), l.length - i = d → i ≤ l.length → Ev (fun k => incipitref09_Same.l0 k l l (i : Int)) true := by
  intro d
  induction d with
  | zero =>
    intro i hd hi
    refine ev1 _ (fun k => by simp only [incipitref09_Same.l0]; rfl) ?_
    simp only [if_neg (show ¬ (i : Int) < (l.length : Int) by omega)]
    exact Ev.now _
  | succ d ih =>
    intro i hd hi
    refine ev1 _ (fun k => by simp only [incipitref09_Same.l0]; rfl) ?_
    simp only [if_pos (show (i : Int) < (l.length : Int) by omega), if_pos (show (0 : Int) ≤ (i : Int) by omega), beq_self_eq_true, Bool.not_true, Bool.or_false, Bool.false_eq_true, if_false]
    rw [w64 (by omega) (by omega)]
    exact ih (i + 1) (by omega) (by omega)
theorem same_self (l : List S36) (hl : l.length ≤ 1000000) : Ev (fun k => incipitref09_Same.f k l l) true := by
  unfold incipitref09_Same.f
  simp only [if_true]
  exact same_from l hl l.length 0 (by omega) (by omega)
theorem kept_from (l : List ByteArray) (hl : l.length ≤ 1000000) : ∀ (d i : Nat), l.length - i = d → i ≤ l.length → Ev (fun k => incipitlaw09_kept.l0 k l l (i : Int)) true := by
  intro d
  induction d with
  | zero =>
    intro i hd hi
    refine ev1 _ (fun k => by simp only [incipitlaw09_kept.l0]; rfl) ?_
    simp only [if_neg (show ¬ (i : Int) < (l.length : Int) by omega)]
    exact Ev.now _
  | succ d ih =>
    intro i hd hi
    refine ev1 _ (fun k => by simp only [incipitlaw09_kept.l0]; rfl) ?_
    simp only [if_pos (show (i : Int) < (l.length : Int) by omega), if_pos (show (0 : Int) ≤ (i : Int) by omega), if_true]
    rw [w64 (by omega) (by omega)]
    exact ih (i + 1) (by omega) (by omega)
theorem kept_self (l : List ByteArray) (hl : l.length ≤ 1000000) : Ev (fun k => incipitlaw09_kept.f k l l) true := by
  unfold incipitlaw09_kept.f
  simp only [if_true]
  exact kept_from l hl l.length 0 (by omega) (by omega)
theorem wordsF_le (stops : List ByteArray) : ∀ (l : List ByteArray) (i : Nat), i ≤ 48 → (wordsF stops i l).1.length ≤ 48 - i := by
  intro l
  induction l with
  | nil => intro i h; simp [wordsF]
  | cons w r ih =>
    intro i h
    rw [wordsF]
    by_cases h1 : 24 < w.size
    · rw [if_pos h1]; exact Nat.zero_le _
    · rw [if_neg h1]
      by_cases h2 : i = 48
      · rw [if_pos h2]; exact Nat.zero_le _
      · rw [if_neg h2]
        have := ih (i + 1) (by omega)
        by_cases h3 : (wordsF stops (i + 1) r).2 = 0
        · rw [if_pos h3]
          by_cases h4 : inB stops w = true
          · simp only [if_pos h4]; omega
          · simp only [if_neg h4, List.length_cons]; omega
        · rw [if_neg h3]; exact Nat.zero_le _
theorem wordsB_le (s : ByteArray) (stops : List ByteArray) : (wordsB s stops).1.length ≤ 48 := by
  unfold wordsB
  by_cases h : faultB s = (s.size : Int)
  · rw [if_pos h]; exact wordsF_le _ _ 0 (by omega)
  · rw [if_neg h]; exact Nat.zero_le _
theorem words_some (s : ByteArray) (stops : List ByteArray) (h : s.size ≤ 140737488351232) : words_Words.f s stops = some (wordsB s stops) := by
  unfold words_Words.f
  rw [if_pos h]
/-- Is a text one word? -/
def oneB (s : ByteArray) (stops : List ByteArray) : Bool := decide ((wordsB s stops).2 = 0) && (decide ((wordsB s stops).1.length = 1) && ((rd_T36 (wordsB s stops).1 0).f0.toList == s.toList))
theorem one_form (z : List S36 × Int) (s : ByteArray) : (if z.2 = 0 then (if (z.1.length : Int) = 1 then (if 0 < (z.1.length : Int) then (some (((rd_T36 z.1 0).f0).toList == s.toList)) else (none)) else (some false)) else (some false)) = some (decide (z.2 = 0) && (decide (z.1.length = 1) && ((rd_T36 z.1 0).f0.toList == s.toList))) := by
  by_cases h1 : z.2 = 0
  · rw [if_pos h1, decide_eq_true h1, Bool.true_and]
    by_cases h2 : z.1.length = 1
    · rw [if_pos (show (z.1.length : Int) = 1 by omega), if_pos (show 0 < (z.1.length : Int) by omega), decide_eq_true h2, Bool.true_and]
    · rw [if_neg (show ¬ (z.1.length : Int) = 1 by omega), decide_eq_false h2, Bool.false_and]
  · rw [if_neg h1, decide_eq_false h1, Bool.false_and]
theorem one_some (s : ByteArray) (stops : List ByteArray) (h : s.size ≤ 140737488351232) : words_One.f s stops = some (oneB s stops) := by
  unfold words_One.f
  rw [words_some s stops h, Option.bind_some]
  exact one_form _ s
theorem ref_one (s : ByteArray) (stops : List ByteArray) (hs : s.size ≤ 1000000) (hst : stops.length ≤ 1000000) : Ev (fun k => incipitref09_One.f k s stops) (oneB s stops) := by
  unfold incipitref09_One.f
  refine Ev.bind (ref_words s stops hs hst) ?_
  rw [one_form]
  exact Ev.now _
end Go.Proofs.YtjeomkojpkienaaDoor.Ref
