/-
  The plain law of words: the document's words come to the same as the plain ones.
-/
import Derived.Test.YtjeomkojpkienaaDoorUtfRef2
set_option linter.unusedVariables false
set_option linter.unusedSimpArgs false
namespace Go.Proofs.YtjeomkojpkienaaDoor.Ref
open Go.RowKit Go.Proofs.YtjeomkojpkienaaDoor Go.Proofs.YtjeomkojpkienaaDoorZ.ZA Go.Proofs.YtjeomkojpkienaaDoorW.PrintWords

theorem small_app (a b : List UInt8) : smallL (a ++ b) = smallL a ++ smallL b := by unfold smallL; exact List.map_append
theorem small_len (a : List UInt8) : (smallL a).length = a.length := by unfold smallL; exact List.length_map ..
theorem st_nil (xs : List UInt8) : (st xs).toList = ([] : List UInt8) ↔ xs = [] := by rw [Lib.toList_data]; simp [st]
theorem st_size (xs : List UInt8) : (st xs).size = xs.length := by rw [← tb_length, tb_st]
theorem st_app (a b : List UInt8) : st a ++ st b = st (a ++ b) := tb_inj (by rw [tb_append, tb_st, tb_st, tb_st])
theorem small_nil (acc : List UInt8) : smallL acc = [] ↔ acc = [] := by unfold smallL; exact List.map_eq_nil_iff

theorem ref_runs_from (s : ByteArray) (hs : s.size ≤ 1000000) : ∀ (d i : Nat) (acc : List UInt8) (out : List ByteArray), s.size - i ≤ d → i ≤ s.size → faultL ((tb s).drop i) = s.size - i → out.length ≤ i → acc.length ≤ i →
    Ev (fun k => incipitref09_Runs.l0 k s out (st (smallL acc)) (i : Int)) (out ++ (runsK (d + 1) acc ((tb s).drop i)).map st) := by
  intro d
  induction d with
  | zero =>
    intro i acc out hd hi hf ho ha
    refine ev1 _ (fun k => by simp only [incipitref09_Runs.l0]; rfl) ?_
    simp only [if_neg (show ¬ (i : Int) < (s.size : Int) by omega)]
    rw [List.drop_of_length_le (by rw [tb_length]; omega), runsK, if_pos rfl]
    unfold emit
    by_cases hn : acc = []
    · simp only [if_pos ((st_nil _).2 ((small_nil acc).2 hn)), if_pos hn, List.map_nil, List.append_nil]
      exact Ev.now _
    · simp only [if_neg (fun h => hn ((small_nil acc).1 ((st_nil _).1 h))), if_neg hn, List.map_cons, List.map_nil, if_pos (show out.length < 8796093022208 by omega)]
      exact Ev.now _
  | succ d ih =>
    intro i acc out hd hi hf ho ha
    by_cases hlt : i < s.size
    · have hne : (tb s).drop i ≠ [] := by intro h; have := congrArg List.length h; rw [List.length_drop, tb_length] at this; simp at this; omega
      have hle := (nxt_le ((tb s).drop i)).1
      rw [List.length_drop, tb_length] at hle
      have hfe := faultL_eq ((tb s).drop i)
      rw [hf, List.drop_drop] at hfe
      by_cases hp : 0 < (nxt ((tb s).drop i)).2
      · rw [if_pos hp] at hfe
        have hadv : adv ((tb s).drop i) = (nxt ((tb s).drop i)).2 := by unfold adv; omega
        rw [runsK, if_neg hne, hadv, List.drop_drop]
        obtain ⟨n, hn⟩ : ∃ n, (nxt ((tb s).drop i)).2 = n := ⟨_, rfl⟩
        obtain ⟨c, hc⟩ : ∃ c, (nxt ((tb s).drop i)).1 = c := ⟨_, rfl⟩
        rw [hn, hc]
        rw [hn] at hfe hp hle
        have hnx : nextB s (i : Int) = ((c : Int), (n : Int)) := by rw [nextB_nat, hn, hc]
        clear hn hc hadv
        refine ev1 _ (fun k => by simp only [incipitref09_Runs.l0]; rfl) ?_
        simp only [if_pos (show (i : Int) < (s.size : Int) by omega)]
        refine Ev.bind (ref_next s (i : Int) (by omega)) ?_
        rw [hnx]
        refine Ev.bind (ref_letter (c : Int)) ?_
        obtain ⟨lb, hlb⟩ : ∃ lb, letterB (c : Int) = lb := ⟨_, rfl⟩
        rw [hlb]
        have hw : wrap64 ((i : Int) + (n : Int)) = ((i + n : Nat) : Int) := by rw [w64 (by omega) (by omega)]; omega
        cases lb with
        | true =>
          simp only [if_true, hw, if_pos (show (0 : Int) ≤ (i : Int) by omega), if_pos (show (i : Int) ≤ ((i + n : Nat) : Int) by omega), if_pos (show ((i + n : Nat) : Int) ≤ (s.size : Int) by omega)]
          have hxt : tb (s.extract (i : Int).toNat ((i + n : Nat) : Int).toNat) = ((tb s).drop i).take n := by
            rw [tb_extract, Int.toNat_natCast, Int.toNat_natCast, show i + n - i = n by omega]
          have hxs : (s.extract (i : Int).toNat ((i + n : Nat) : Int).toNat).size = n := by
            rw [← tb_length, hxt, List.length_take, List.length_drop, tb_length]; omega
          refine Ev.bind (ref_small _ (by rw [hxs]; omega)) ?_
          have hsm : smallT (s.extract (i : Int).toNat ((i + n : Nat) : Int).toNat) = st (smallL (((tb s).drop i).take n)) := by unfold smallT; rw [hxt]
          rw [hsm]
          have hsz : (st (smallL acc)).size + (st (smallL (((tb s).drop i).take n))).size ≤ 9223372036854775807 := by
            rw [st_size, st_size, small_len, small_len, List.length_take]; omega
          simp only [if_pos hsz]
          rw [st_app, ← small_app]
          exact ih (i + n) _ out (by omega) (by omega) (by omega) (by omega) (by rw [List.length_append, List.length_take]; omega)
        | false =>
          simp only [Bool.false_eq_true, if_false, hw]
          unfold emit
          by_cases ha0 : acc = []
          · simp only [if_pos ((st_nil _).2 ((small_nil acc).2 ha0)), if_pos ha0, List.nil_append]
            rw [ha0]
            exact ih (i + n) [] out (by omega) (by omega) (by omega) (by omega) (by simp)
          · simp only [if_neg (fun h => ha0 ((small_nil acc).1 ((st_nil _).1 h))), if_neg ha0, if_pos (show out.length < 8796093022208 by omega)]
            rw [List.map_append, List.map_cons, List.map_nil, ← List.append_assoc]
            exact ih (i + n) [] (out ++ [st (smallL acc)]) (by omega) (by omega) (by omega) (by rw [List.length_append]; simp; omega) (by simp)
      · rw [if_neg hp] at hfe
        omega
    · refine ev1 _ (fun k => by simp only [incipitref09_Runs.l0]; rfl) ?_
      simp only [if_neg (show ¬ (i : Int) < (s.size : Int) by omega)]
      rw [List.drop_of_length_le (by rw [tb_length]; omega), runsK, if_pos rfl]
      unfold emit
      by_cases hn : acc = []
      · simp only [if_pos ((st_nil _).2 ((small_nil acc).2 hn)), if_pos hn, List.map_nil, List.append_nil]
        exact Ev.now _
      · simp only [if_neg (fun h => hn ((small_nil acc).1 ((st_nil _).1 h))), if_neg hn, List.map_cons, List.map_nil, if_pos (show out.length < 8796093022208 by omega)]
        exact Ev.now _
theorem ref_runs (s : ByteArray) (hs : s.size ≤ 1000000) (hf : faultL (tb s) = s.size) : Ev (fun k => incipitref09_Runs.f k s) ((runsL (tb s)).map st) := by
  unfold incipitref09_Runs.f
  have := ref_runs_from s hs s.size 0 [] [] (by omega) (by omega) (by rw [List.drop_zero]; omega) (by simp) (by simp)
  rw [List.drop_zero, List.nil_append] at this
  unfold runsL
  rw [tb_length]
  exact this

theorem inB_cons (x : ByteArray) (l : List ByteArray) (a : ByteArray) : inB (x :: l) a = (decide (a.toList = x.toList) || inB l a) := rfl
theorem ref_in_from (l : List ByteArray) (a : ByteArray) (hl : l.length ≤ 1000000) : ∀ (d i : Nat), l.length - i = d → i ≤ l.length → Ev (fun k => incipitref09_In.l0 k l a (i : Int)) (inB (l.drop i) a) := by
  intro d
  induction d with
  | zero =>
    intro i hd hi
    refine ev1 _ (fun k => by simp only [incipitref09_In.l0]; rfl) ?_
    simp only [if_neg (show ¬ (i : Int) < (l.length : Int) by omega)]
    rw [List.drop_of_length_le (by omega)]
    exact Ev.now _
  | succ d ih =>
    intro i hd hi
    have hlt : i < l.length := by omega
    refine ev1 _ (fun k => by simp only [incipitref09_In.l0]; rfl) ?_
    have hrd : rdOf ByteArray.empty l (i : Int) = l[i] := by simp [rdOf, List.getD, hlt]
    simp only [if_pos (show (i : Int) < (l.length : Int) by omega), if_pos (show (0 : Int) ≤ (i : Int) by omega), hrd]
    rw [List.drop_eq_getElem_cons hlt]
    by_cases he : l[i].toList = a.toList
    · simp only [if_pos he]
      rw [inB_cons, decide_eq_true he.symm, Bool.true_or]; exact Ev.now _
    · simp only [if_neg he]
      rw [inB_cons, decide_eq_false (fun h => he h.symm), Bool.false_or, w64 (by omega) (by omega)]
      exact ih (i + 1) (by omega) (by omega)
theorem ref_in (l : List ByteArray) (a : ByteArray) (hl : l.length ≤ 1000000) : Ev (fun k => incipitref09_In.f k l a) (inB l a) := by
  unfold incipitref09_In.f
  have := ref_in_from l a hl l.length 0 (by omega) (by omega)
  rw [List.drop_zero] at this
  exact this

theorem ref_words_from (stops l : List ByteArray) (hst : stops.length ≤ 1000000) : ∀ (d i : Nat) (out : List S36), l.length - i = d → i ≤ l.length → i ≤ 48 → out.length ≤ i →
    Ev (fun k => incipitref09_Words.l0 k stops l out (i : Int)) (if (wordsF stops i (l.drop i)).2 = 0 then (out ++ (wordsF stops i (l.drop i)).1, 0) else ([], (wordsF stops i (l.drop i)).2)) := by
  intro d
  induction d with
  | zero =>
    intro i out hd hi h48 ho
    refine ev1 _ (fun k => by simp only [incipitref09_Words.l0]; rfl) ?_
    simp only [if_neg (show ¬ (i : Int) < (l.length : Int) by omega)]
    rw [List.drop_of_length_le (by omega)]
    simp only [wordsF, if_true, List.append_nil]
    exact Ev.now _
  | succ d ih =>
    intro i out hd hi h48 ho
    have hlt : i < l.length := by omega
    refine ev1 _ (fun k => by simp only [incipitref09_Words.l0]; rfl) ?_
    have hrd : rdOf ByteArray.empty l (i : Int) = l[i] := by simp [rdOf, List.getD, hlt]
    simp only [if_pos (show (i : Int) < (l.length : Int) by omega), if_pos (show (0 : Int) ≤ (i : Int) by omega), hrd]
    rw [List.drop_eq_getElem_cons hlt, wordsF]
    by_cases h1 : 24 < l[i].size
    · simp only [if_pos (show (l[i].size : Int) > 24 by omega), if_pos h1]
      simp only [show ¬ ((3 : Int) = 0) by decide, if_false]
      exact Ev.now _
    · simp only [if_neg (show ¬ (l[i].size : Int) > 24 by omega), if_neg h1]
      by_cases h2 : i = 48
      · simp only [if_pos (show (i : Int) ≥ 48 by omega), if_pos h2]
        simp only [show ¬ ((7 : Int) = 0) by decide, if_false]
        exact Ev.now _
      · simp only [if_neg (show ¬ (i : Int) ≥ 48 by omega), if_neg h2]
        refine Ev.bind (ref_in stops l[i] hst) ?_
        rw [w64 (by omega) (by omega)]
        by_cases h3 : inB stops l[i] = true
        · simp only [if_pos h3]
          have := ih (i + 1) out (by omega) (by omega) (by omega) (by omega)
          by_cases h4 : (wordsF stops (i + 1) (l.drop (i + 1))).2 = 0
          · simp only [if_pos h4] at this ⊢; exact this
          · simp only [if_neg h4] at this ⊢; exact this
        · simp only [if_neg h3, if_pos (show out.length < 5864062014805 by omega)]
          have := ih (i + 1) (out ++ [⟨l[i], (i : Int)⟩]) (by omega) (by omega) (by omega) (by rw [List.length_append]; simp; omega)
          by_cases h4 : (wordsF stops (i + 1) (l.drop (i + 1))).2 = 0
          · simp only [if_pos h4, List.append_assoc, List.singleton_append] at this ⊢; exact this
          · simp only [if_neg h4] at this ⊢; exact this
theorem wordsF_err (stops : List ByteArray) : ∀ (l : List ByteArray) (i : Nat), (wordsF stops i l).2 ≠ 0 → (wordsF stops i l).1 = [] := by
  intro l
  induction l with
  | nil => intro i h; exact absurd rfl h
  | cons w r ih =>
    intro i h
    rw [wordsF] at h ⊢
    by_cases h1 : 24 < w.size
    · rw [if_pos h1]
    · rw [if_neg h1] at h ⊢
      by_cases h2 : i = 48
      · rw [if_pos h2]
      · rw [if_neg h2] at h ⊢
        by_cases h3 : (wordsF stops (i + 1) r).2 = 0
        · rw [if_pos h3] at h; exact absurd rfl h
        · rw [if_neg h3]
theorem ref_words (s : ByteArray) (stops : List ByteArray) (hs : s.size ≤ 1000000) (hst : stops.length ≤ 1000000) : Ev (fun k => incipitref09_Words.f k s stops) (wordsB s stops) := by
  unfold incipitref09_Words.f wordsB
  refine Ev.bind (ref_may s (by omega)) ?_
  rw [faultB_eq]
  by_cases hf : faultL (tb s) = s.size
  · simp only [decide_eq_true hf, if_true, if_pos (show (faultL (tb s) : Int) = (s.size : Int) by omega)]
    refine Ev.bind (ref_runs s hs hf) ?_
    have := ref_words_from stops ((runsL (tb s)).map st) hst _ 0 [] rfl (Nat.zero_le _) (by omega) (by simp)
    rw [List.drop_zero, List.nil_append] at this
    by_cases h4 : (wordsF stops 0 ((runsL (tb s)).map st)).2 = 0
    · rw [if_pos h4] at this
      have e : wordsF stops 0 ((runsL (tb s)).map st) = ((wordsF stops 0 ((runsL (tb s)).map st)).1, 0) := Prod.ext rfl h4
      rw [e]; exact this
    · rw [if_neg h4] at this
      have e : wordsF stops 0 ((runsL (tb s)).map st) = ([], (wordsF stops 0 ((runsL (tb s)).map st)).2) := Prod.ext (wordsF_err _ _ _ h4) rfl
      rw [e]; exact this
  · simp only [decide_eq_false hf, Bool.false_eq_true, if_false, if_neg (show ¬ (faultL (tb s) : Int) = (s.size : Int) by omega)]
    exact Ev.now _
end Go.Proofs.YtjeomkojpkienaaDoor.Ref
