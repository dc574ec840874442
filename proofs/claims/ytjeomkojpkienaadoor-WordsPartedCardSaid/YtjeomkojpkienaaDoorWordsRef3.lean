/-
  The plain law of words: with stop words and without, great or small.
-/
import Derived.Test.YtjeomkojpkienaaDoorWordsRef2
import Derived.Test.YtjeomkojpkienaaDoorWordsLaw
set_option linter.unusedVariables false
set_option linter.unusedSimpArgs false
namespace Go.Proofs.YtjeomkojpkienaaDoor.Ref
open Go.RowKit Go.Proofs.YtjeomkojpkienaaDoor Go.Proofs.YtjeomkojpkienaaDoorZ.ZA Go.Proofs.YtjeomkojpkienaaDoorW.PrintWords

theorem wordsF_e (s1 s2 : List ByteArray) : ∀ (l : List ByteArray) (i : Nat), (wordsF s1 i l).2 = (wordsF s2 i l).2 := by
  intro l
  induction l with
  | nil => intro i; rfl
  | cons w r ih =>
    intro i
    rw [wordsF, wordsF]
    by_cases h1 : 24 < w.size
    · rw [if_pos h1, if_pos h1]
    · rw [if_neg h1, if_neg h1]
      by_cases h2 : i = 48
      · rw [if_pos h2, if_pos h2]
      · rw [if_neg h2, if_neg h2, ih (i + 1)]
        by_cases h3 : (wordsF s2 (i + 1) r).2 = 0
        · rw [if_pos h3, if_pos h3]
        · rw [if_neg h3, if_neg h3]
theorem wordsF_ok (s : List ByteArray) : ∀ (l : List ByteArray) (i : Nat), i ≤ 48 → (wordsF s i l).2 = 0 → (∀ x ∈ l, x.size ≤ 24) ∧ i + l.length ≤ 48 := by
  intro l
  induction l with
  | nil => intro i h _; exact ⟨by simp, h⟩
  | cons w r ih =>
    intro i h h0
    rw [wordsF] at h0
    by_cases h1 : 24 < w.size
    · rw [if_pos h1] at h0; exact absurd h0 (by decide)
    · rw [if_neg h1] at h0
      by_cases h2 : i = 48
      · rw [if_pos h2] at h0; exact absurd h0 (by decide)
      · rw [if_neg h2] at h0
        by_cases h3 : (wordsF s (i + 1) r).2 = 0
        · obtain ⟨h4, h5⟩ := ih (i + 1) (by omega) h3
          refine ⟨fun x hx => ?_, by rw [List.length_cons]; omega⟩
          rcases List.mem_cons.1 hx with rfl | hx
          · omega
          · exact h4 x hx
        · rw [if_neg h3] at h0; exact absurd h0 h3
theorem keepW_filter (s : List ByteArray) : ∀ (l : List ByteArray) (i : Nat), keepW s i l = (keepW [] i l).filter (fun x => !inB s x.f0) := by
  intro l
  induction l with
  | nil => intro i; rfl
  | cons w r ih =>
    intro i
    have e : inB [] w = false := rfl
    have e2 : keepW [] i (w :: r) = ⟨w, (i : Int)⟩ :: keepW [] (i + 1) r := by rw [keepW, if_neg (by rw [e]; simp)]
    rw [e2, keepW, List.filter_cons, ih (i + 1)]
    by_cases h : inB s w = true
    · simp [h]
    · simp [Bool.eq_false_iff.2 h]
theorem keepW_at : ∀ (l : List ByteArray) (i j : Nat) (x : S36), (keepW [] i l)[j]? = some x → ∃ w, l[j]? = some w ∧ x = ⟨w, ((i + j : Nat) : Int)⟩ := by
  intro l
  induction l with
  | nil => intro i j x h; simp [keepW] at h
  | cons w r ih =>
    intro i j x h
    have e : inB [] w = false := rfl
    rw [keepW, if_neg (by rw [e]; simp)] at h
    cases j with
    | zero =>
      simp only [List.getElem?_cons_zero, Option.some.injEq] at h
      exact ⟨w, by simp, by rw [← h]; rfl⟩
    | succ j =>
      rw [List.getElem?_cons_succ] at h
      obtain ⟨w', h1, h2⟩ := ih (i + 1) j x h
      exact ⟨w', by simpa using h1, by rw [h2]; congr 2; omega⟩
theorem smallT_size (a : ByteArray) : (smallT a).size = a.size := by unfold smallT; rw [st_size, smallL_len, tb_length]
theorem wordsB_small (a : ByteArray) (s : List ByteArray) : wordsB (smallT a) s = wordsB a s := by
  unfold wordsB
  rw [faultB_eq, faultB_eq, smallT_size, show tb (smallT a) = smallL (tb a) from tb_st _, fault_small _ _ (Nat.le_refl _), runs_small]
/-- What a text's words are, where there is no error. -/
theorem words_all (a : ByteArray) (h : (wordsB a []).2 = 0) : ∀ (j : Nat) (x : S36), (wordsB a []).1[j]? = some x → x.f1 = (j : Int) ∧ x.f0.size ≤ 24 ∧ oneB x.f0 [] = true := by
  intro j x hx
  unfold wordsB at h hx
  by_cases hf : faultB a = (a.size : Int)
  · rw [if_pos hf] at h hx
    obtain ⟨h1, h2⟩ := wordsF_ok [] _ 0 (by omega) h
    rw [wordsF_all [] _ 0 h1 h2] at hx
    obtain ⟨w, hw, rfl⟩ := keepW_at _ 0 j x hx
    have hm := List.mem_of_getElem? hw
    refine ⟨by show ((0 + j : Nat) : Int) = _; omega, h1 w hm, ?_⟩
    obtain ⟨r, hr, rfl⟩ := List.mem_map.1 hm
    rw [faultB_eq] at hf
    have hf' : faultL (tb a) = (tb a).length := by rw [tb_length]; omega
    obtain ⟨n0, r1, r2, r3⟩ := run_own hf' hr
    have h24 := h1 _ hm
    have : wordsB (st r) [] = ([⟨st r, 0⟩], 0) := by
      unfold wordsB
      rw [faultB_eq, tb_st, r2, st_size, if_pos rfl, r1]
      rw [wordsF_all [] _ 0 (by intro x hx; simp at hx; rw [hx]; exact h24) (by simp)]
      rfl
    show oneB (st r) [] = true
    unfold oneB
    rw [this]
    simp [rd_T36]
  · rw [if_neg hf] at h; exact absurd h (by decide)
theorem words_stops (a : ByteArray) (s : List ByteArray) : (wordsB a s).2 = (wordsB a []).2 ∧ (wordsB a s).1 = (wordsB a []).1.filter (fun x => !inB s x.f0) := by
  unfold wordsB
  by_cases hf : faultB a = (a.size : Int)
  · rw [if_pos hf, if_pos hf]
    refine ⟨wordsF_e _ _ _ _, ?_⟩
    by_cases h : (wordsF [] 0 ((runsL (tb a)).map st)).2 = 0
    · obtain ⟨h1, h2⟩ := wordsF_ok [] _ 0 (by omega) h
      rw [wordsF_all [] _ 0 h1 h2, wordsF_all s _ 0 h1 h2]
      exact keepW_filter s _ 0
    · rw [wordsF_err _ _ _ h, wordsF_err s _ _ (by rw [wordsF_e s []]; exact h)]; rfl
  · rw [if_neg hf, if_neg hf]; exact ⟨rfl, rfl⟩
end Go.Proofs.YtjeomkojpkienaaDoor.Ref
