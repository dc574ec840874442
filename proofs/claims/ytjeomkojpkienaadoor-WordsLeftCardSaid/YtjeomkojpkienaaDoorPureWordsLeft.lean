/-
  WordsLeft: the plain law.
-/
import Derived.Test.YtjeomkojpkienaaDoorWordsRef3
set_option linter.unusedVariables false
set_option linter.unusedSimpArgs false
namespace Go.Proofs.YtjeomkojpkienaaDoor.Pure
open Go.RowKit Go.Proofs.YtjeomkojpkienaaDoor Go.Proofs.YtjeomkojpkienaaDoor.Ref Go.Proofs.YtjeomkojpkienaaDoorZ.ZA Go.Proofs.YtjeomkojpkienaaDoorW.PrintWords
theorem among_from (l : List ByteArray) (a : ByteArray) (hl : l.length ≤ 1000000) : ∀ (d i : Nat), l.length - i = d → i ≤ l.length → Ev (fun k => incipitlaw09_among.l0 k l a (i : Int)) (inB (l.drop i) a) := by
  intro d
  induction d with
  | zero =>
    intro i hd hi
    refine ev1 _ (fun k => by simp only [incipitlaw09_among.l0]; rfl) ?_
    simp only [if_neg (show ¬ (i : Int) < (l.length : Int) by omega)]
    rw [List.drop_of_length_le (by omega)]
    exact Ev.now _
  | succ d ih =>
    intro i hd hi
    have hlt : i < l.length := by omega
    refine ev1 _ (fun k => by simp only [incipitlaw09_among.l0]; rfl) ?_
    simp only [if_pos (show (i : Int) < (l.length : Int) by omega), if_pos (show (0 : Int) ≤ (i : Int) by omega), rd_text l i hlt]
    rw [List.drop_eq_getElem_cons hlt]
    by_cases he : l[i].toList = a.toList
    · simp only [if_pos he]
      rw [inB_cons, decide_eq_true he.symm, Bool.true_or]; exact Ev.now _
    · simp only [if_neg he]
      rw [inB_cons, decide_eq_false (fun h => he h.symm), Bool.false_or, w64 (by omega) (by omega)]
      exact ih (i + 1) (by omega) (by omega)
theorem among_ev (l : List ByteArray) (a : ByteArray) (hl : l.length ≤ 1000000) : Ev (fun k => incipitlaw09_among.f k l a) (inB l a) := by
  unfold incipitlaw09_among.f
  have := among_from l a hl l.length 0 (by omega) (by omega)
  rw [List.drop_zero] at this
  exact this
theorem rd_word (l : List S36) (i : Nat) (h : i < l.length) : rd_T36 l (i : Int) = l[i] := by simp [rd_T36, List.getD, h]
theorem left_loop (stops : List ByteArray) (all some_ : List S36) (hst : stops.length ≤ 1000000) (hal : all.length ≤ 1000000) (hs : some_ = all.filter (fun x => !inB stops x.f0))
    (hall : ∀ (j : Nat) (x : S36), all[j]? = some x → x.f1 = (j : Int) ∧ x.f0.size ≤ 24 ∧ oneB x.f0 [] = true) :
    ∀ (d i n : Nat), all.length - i = d → i ≤ all.length → n = ((all.take i).filter (fun x => !inB stops x.f0)).length → Ev (fun k => incipitlaw09_WordsLeft.l0 k stops all some_ all (n : Int) (i : Int)) true := by
  intro d
  induction d with
  | zero =>
    intro i n hd hi hn
    refine ev1 _ (fun k => by simp only [incipitlaw09_WordsLeft.l0]; rfl) ?_
    rw [List.take_of_length_le (by omega), ← hs] at hn
    simp only [if_neg (show ¬ (i : Int) < (all.length : Int) by omega), if_pos (show (n : Int) = (some_.length : Int) by omega)]
    exact bind1 rfl (Ev.now _)
  | succ d ih =>
    intro i n hd hi hn
    have hlt : i < all.length := by omega
    obtain ⟨h1, h2, h3⟩ := hall i all[i] (List.getElem?_eq_getElem hlt)
    refine ev1 _ (fun k => by simp only [incipitlaw09_WordsLeft.l0]; rfl) ?_
    simp only [if_pos (show (i : Int) < (all.length : Int) by omega), if_pos (show (0 : Int) ≤ (i : Int) by omega), beq_self_eq_true, Bool.not_true, Bool.or_false, Bool.false_eq_true, if_false, rd_word all i hlt, h1, if_true]
    refine bind1 (one_some _ [] (by omega)) ?_
    rw [h3]
    refine ev1 _ (fun k => by simp only [incipitlaw09_WordsLeft.j2]; rfl) ?_
    simp only [Bool.not_true, Bool.false_eq_true, if_false, if_pos (show (i : Int) < (all.length : Int) by omega), if_pos (show (0 : Int) ≤ (i : Int) by omega), rd_word all i hlt]
    refine Ev.bind (among_ev stops _ hst) ?_
    have htk : all.take (i + 1) = all.take i ++ [all[i]] := by rw [List.take_add_one, List.getElem?_eq_getElem hlt]; rfl
    by_cases hin : inB stops all[i].f0 = true
    · simp only [if_pos hin]
      rw [w64 (by omega) (by omega)]
      refine ih (i + 1) n (by omega) (by omega) ?_
      rw [htk, List.filter_append, List.length_append, hn]
      simp [List.filter_cons, hin]
    · have hsp : some_ = (all.take i).filter (fun x => !inB stops x.f0) ++ all[i] :: (all.drop (i + 1)).filter (fun x => !inB stops x.f0) := by
        rw [hs]
        conv => lhs; rw [← List.take_append_drop i all, List.filter_append, List.drop_eq_getElem_cons hlt, List.filter_cons]
        rw [if_pos (by simp [Bool.eq_false_iff.2 hin])]
      have hnl : n < some_.length := by rw [hsp, List.length_append, List.length_cons]; omega
      have hat : rd_T36 some_ (n : Int) = all[i] := by
        rw [rd_word some_ n hnl]
        apply Option.some.inj
        rw [← List.getElem?_eq_getElem hnl, hsp, hn, List.getElem?_append_right (Nat.le_refl _), Nat.sub_self]; rfl
      have hlen : some_.length ≤ all.length := by rw [hs]; exact List.length_filter_le _ _
      simp only [if_neg hin, if_neg (show ¬ (n : Int) ≥ (some_.length : Int) by omega), if_pos (show (0 : Int) ≤ (n : Int) by omega), if_pos (show (n : Int) < (some_.length : Int) by omega), hat, beq_self_eq_true, Bool.not_true, Bool.or_false, Bool.false_eq_true, if_false]
      rw [w64 (by omega) (by omega), w64 (by omega) (by omega)]
      refine ih (i + 1) (n + 1) (by omega) (by omega) ?_
      rw [htk, List.filter_append, List.length_append, hn]
      simp [List.filter_cons, Bool.eq_false_iff.2 hin]
theorem wordsB_none (a : ByteArray) (s : List ByteArray) (h : (wordsB a s).2 ≠ 0) : (wordsB a s).1 = [] := by
  unfold wordsB at h ⊢
  by_cases hf : faultB a = (a.size : Int)
  · rw [if_pos hf] at h ⊢; exact wordsF_err _ _ _ h
  · rw [if_neg hf]
theorem WordsLeft : incipitlaw09_WordsLeft.Pure := by
  intro a l ha hl hs
  refine Ev.rounds (r := true) ?_
  unfold incipitlaw09_WordsLeft.f
  obtain ⟨b, h1, h2⟩ := much_ev a l
  refine Ev.bind h1 ?_
  cases b with
  | true =>
    simp only [if_true]
    exact bind1 rfl (Ev.now _)
  | false =>
    obtain ⟨h3, h4, h5⟩ := h2 rfl
    simp only [Bool.false_eq_true, if_false]
    refine bind1 (words_some a [] ha) ?_
    refine bind1 (words_some a l ha) ?_
    refine bind1 (small_some a ha) ?_
    refine bind1 (words_some (smallT a) [] (by rw [smallT_size]; exact ha)) ?_
    rw [wordsB_small]
    obtain ⟨e1, e2⟩ := words_stops a l
    rw [e1]
    simp only [if_true, bne_self_eq_false]
    refine ev1 _ (fun k => by simp only [incipitlaw09_WordsLeft.j0]; rfl) ?_
    simp only [Bool.false_eq_true, if_false]
    have hle := wordsB_le a []
    refine left_loop l _ _ (by omega) (by omega) e2 ?_ _ 0 0 rfl (by omega) (by simp)
    by_cases h0 : (wordsB a []).2 = 0
    · exact words_all a h0
    · intro j x hx; rw [wordsB_none a [] h0] at hx; simp at hx
end Go.Proofs.YtjeomkojpkienaaDoor.Pure
