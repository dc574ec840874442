/-
  WordsJoins: the plain law.
-/
import Derived.Test.YtjeomkojpkienaaDoorZBx
import Derived.Test.YtjeomkojpkienaaDoorWordsJoin
set_option linter.unusedVariables false
set_option linter.unusedSimpArgs false
namespace Go.Proofs.YtjeomkojpkienaaDoor.Pure
open Go.RowKit Go.Proofs.YtjeomkojpkienaaDoor Go.Proofs.YtjeomkojpkienaaDoorZ.ZB Go.Proofs.YtjeomkojpkienaaDoorW.PrintWords

theorem w64 {x : Int} (h1 : -9223372036854775808 ≤ x) (h2 : x ≤ 9223372036854775807) : wrap64 x = x := by unfold wrap64; omega
theorem ev1 {α : Type} {g : Nat → Option α} {r : α} (f : Nat → Option α) (h : ∀ k, g (k + 1) = f k) (k : Ev f r) : Ev g r := Ev.step h k
theorem bind1 {α β : Type} {x : Option α} {a : α} {f : Nat → α → Option β} {r : β} (h : x = some a) (k : Ev (fun n => f n a) r) : Ev (fun n => x.bind (f n)) r := by
  rw [h]; exact k
theorem tb_append (s t : ByteArray) : tb (s ++ t) = tb s ++ tb t := by simp [tb]
theorem words_some (s : ByteArray) (stops : List ByteArray) (h : s.size ≤ 140737488351232) : words_Words.f s stops = some (wordsB s stops) := by
  unfold words_Words.f
  rw [if_pos h]
theorem wordsF_err (stops : List ByteArray) : ∀ (l : List ByteArray) (i : Nat), (wordsF stops i l).2 ≠ 0 → (wordsF stops i l).1 = [] := by
  intro l
  induction l with
  | nil => intro i h; exact absurd rfl h
  | cons w r ih =>
    intro i h
    rw [wordsF] at h ⊢
    by_cases h1 : 24 < w.size
    · rw [if_pos h1]
    · rw [if_neg h1] at h ⊢
      by_cases h2 : i = 48
      · rw [if_pos h2]
      · rw [if_neg h2] at h ⊢
        by_cases h3 : (wordsF stops (i + 1) r).2 = 0
        · rw [if_pos h3] at h; exact absurd rfl h
        · rw [if_neg h3]
theorem wordsF_ok (s : List ByteArray) : ∀ (l : List ByteArray) (i : Nat), i ≤ 48 → (wordsF s i l).2 = 0 → (∀ x ∈ l, x.size ≤ 24) ∧ i + l.length ≤ 48 := by
  intro l
  induction l with
  | nil => intro i h _; exact ⟨by simp, h⟩
  | cons w r ih =>
    intro i h h0
    rw [wordsF] at h0
    by_cases h1 : 24 < w.size
    · rw [if_pos h1] at h0; exact absurd h0 (by decide)
    · rw [if_neg h1] at h0
      by_cases h2 : i = 48
      · rw [if_pos h2] at h0; exact absurd h0 (by decide)
      · rw [if_neg h2] at h0
        by_cases h3 : (wordsF s (i + 1) r).2 = 0
        · obtain ⟨h4, h5⟩ := ih (i + 1) (by omega) h3
          refine ⟨fun x hx => ?_, by rw [List.length_cons]; omega⟩
          rcases List.mem_cons.1 hx with rfl | hx
          · omega
          · exact h4 x hx
        · rw [if_neg h3] at h0; exact absurd h0 h3
theorem wordsB_le (s : ByteArray) (stops : List ByteArray) : (wordsB s stops).2 = 0 → (wordsB s stops).1 = keepW stops 0 ((runsL (tb s)).map st) ∧ faultL (tb s) = s.size ∧ (∀ x ∈ (runsL (tb s)).map st, x.size ≤ 24) ∧ (runsL (tb s)).length ≤ 48 := by
  intro h
  unfold wordsB at h ⊢
  by_cases hf : faultB s = (s.size : Int)
  · rw [if_pos hf] at h ⊢
    obtain ⟨h1, h2⟩ := wordsF_ok stops _ 0 (by omega) h
    rw [wordsF_all stops _ 0 h1 h2]
    rw [List.length_map] at h2
    rw [faultB_eq] at hf
    exact ⟨rfl, by omega, h1, by omega⟩
  · rw [if_neg hf] at h; exact absurd h (by decide)
theorem wordsB_of (s : ByteArray) (hf : faultL (tb s) = s.size) (h1 : ∀ x ∈ (runsL (tb s)).map st, x.size ≤ 24) (h2 : (runsL (tb s)).length ≤ 48) : wordsB s [] = (keepW [] 0 ((runsL (tb s)).map st), 0) := by
  unfold wordsB
  rw [faultB_eq, if_pos (by omega)]
  exact wordsF_all [] _ 0 h1 (by rw [List.length_map]; omega)
theorem keepW_len : ∀ (l : List ByteArray) (i : Nat), (keepW [] i l).length = l.length := by
  intro l
  induction l with
  | nil => intro i; rfl
  | cons w r ih => intro i; have e : inB [] w = false := rfl; rw [keepW, if_neg (by rw [e]; simp), List.length_cons, List.length_cons, ih]
theorem keepW_get : ∀ (l : List ByteArray) (i j : Nat) (h : j < l.length), (keepW [] i l)[j]? = some ⟨l[j], ((i + j : Nat) : Int)⟩ := by
  intro l
  induction l with
  | nil => intro i j h; simp at h
  | cons w r ih =>
    intro i j h
    have e : inB [] w = false := rfl
    rw [keepW, if_neg (by rw [e]; simp)]
    cases j with
    | zero => simp
    | succ j =>
      rw [List.getElem?_cons_succ, ih (i + 1) j (by simpa using h)]
      simp only [List.getElem_cons_succ]
      congr 2
      omega
theorem rd_keep (l : List ByteArray) (j : Nat) (h : j < l.length) : rd_T36 (keepW [] 0 l) (j : Int) = ⟨l[j], (j : Int)⟩ := by
  have := keepW_get l 0 j h
  unfold rd_T36
  rw [Int.toNat_natCast, List.getD_eq_getElem?_getD, this, Nat.zero_add]
  rfl
theorem joined_text (a b : ByteArray) : tb ((a ++ (⟨#[32]⟩ : ByteArray)) ++ b) = tb a ++ ([32] ++ tb b) := by
  rw [tb_append, tb_append, show tb (⟨#[32]⟩ : ByteArray) = [32] from rfl, List.append_assoc]
theorem joins_loop (xs ys : List ByteArray) (hn : xs.length + ys.length ≤ 48) : ∀ (d i : Nat), xs.length + ys.length - i = d → i ≤ xs.length + ys.length → Ev (fun k => incipitlaw09_WordsJoins.l0 k (keepW [] 0 xs) (keepW [] 0 ys) (keepW [] 0 (xs ++ ys)) (i : Int)) true := by
  have e1 := keepW_len xs 0
  have e2 := keepW_len ys 0
  have e3 := keepW_len (xs ++ ys) 0
  rw [List.length_append] at e3
  intro d
  induction d with
  | zero =>
    intro i hd hi
    refine ev1 _ (fun k => by simp only [incipitlaw09_WordsJoins.l0]; rfl) ?_
    simp only [e1, e2, e3, if_neg (show ¬ (i : Int) < ((xs.length + ys.length : Nat) : Int) by omega)]
    exact bind1 rfl (Ev.now _)
  | succ d ih =>
    intro i hd hi
    have hlt : i < xs.length + ys.length := by omega
    have hz := rd_keep (xs ++ ys) i (by rw [List.length_append]; exact hlt)
    refine ev1 _ (fun k => by simp only [incipitlaw09_WordsJoins.l0]; rfl) ?_
    simp only [e1, e2, e3, if_pos (show (i : Int) < ((xs.length + ys.length : Nat) : Int) by omega), hz, if_pos (show (0 : Int) ≤ (i : Int) by omega)]
    have hw : wrap64 ((i : Int) + 1) = ((i + 1 : Nat) : Int) := by rw [w64 (by omega) (by omega)]; omega
    by_cases h1 : i < xs.length
    · have hx := rd_keep xs i h1
      have hg : (xs ++ ys)[i]'(by rw [List.length_append]; exact hlt) = xs[i] := List.getElem_append_left h1
      simp only [if_pos (show (i : Int) < (xs.length : Int) by omega), hx, hg, beq_self_eq_true, Bool.not_true, Bool.or_false, Bool.false_eq_true, if_false, if_neg (show ¬ (i : Int) ≥ (xs.length : Int) by omega)]
      rw [hw]
      exact ih (i + 1) (by omega) (by omega)
    · have hs : wrap64 ((i : Int) - (xs.length : Int)) = ((i - xs.length : Nat) : Int) := by rw [w64 (by omega) (by omega)]; omega
      have hy := rd_keep ys (i - xs.length) (by omega)
      have hg : (xs ++ ys)[i]'(by rw [List.length_append]; exact hlt) = ys[i - xs.length] := List.getElem_append_right (by omega)
      simp only [if_neg (show ¬ (i : Int) < (xs.length : Int) by omega), if_pos (show (i : Int) ≥ (xs.length : Int) by omega), hs, hy, hg, if_pos (show (0 : Int) ≤ ((i - xs.length : Nat) : Int) by omega), if_pos (show ((i - xs.length : Nat) : Int) < (ys.length : Int) by omega), if_true]
      rw [hw]
      exact ih (i + 1) (by omega) (by omega)
theorem wordsF_full (l : List ByteArray) (h1 : ∀ x ∈ l, x.size ≤ 24) (h2 : 48 < l.length) : wordsF [] 0 l = ([], 7) := by
  have e : l = l.take 48 ++ l[48] :: l.drop 49 := by rw [← List.drop_eq_getElem_cons h2, List.take_append_drop]
  rw [e]
  exact wordsF_stop [] (l.take 48) 0 l[48] (l.drop 49) 7 (fun y hy => h1 y (List.mem_of_mem_take hy)) (by rw [List.length_take]; omega) (.inr ⟨h1 _ (List.getElem_mem h2), by rw [List.length_take]; omega, rfl⟩)
theorem WordsJoins : incipitlaw09_WordsJoins.Pure := by
  intro a b ha hb
  refine Ev.rounds (r := true) ?_
  unfold incipitlaw09_WordsJoins.f
  have out : Ev (fun k => incipitlaw09_WordsJoins.j0 k a b true) true := by
    refine ev1 _ (fun k => by simp only [incipitlaw09_WordsJoins.j0]; rfl) ?_
    simp only [if_true]
    exact bind1 rfl (Ev.now _)
  by_cases c1 : (a.size : Int) > 1000
  · simp only [if_pos c1]; exact out
  simp only [if_neg c1]
  by_cases c2 : (b.size : Int) > 1000
  · simp only [decide_eq_true c2]; exact out
  simp only [decide_eq_false c2]
  refine ev1 _ (fun k => by simp only [incipitlaw09_WordsJoins.j0]; rfl) ?_
  simp only [Bool.false_eq_true, if_false]
  have hbl : (a ++ (⟨#[32]⟩ : ByteArray)).size = a.size + 1 := by rw [ByteArray.size_append]; rfl
  have hjs : ((a ++ (⟨#[32]⟩ : ByteArray)) ++ b).size = a.size + 1 + b.size := by rw [ByteArray.size_append, hbl]
  have htb := joined_text a b
  obtain ⟨j, hj⟩ : ∃ j, (a ++ (⟨#[32]⟩ : ByteArray)) ++ b = j := ⟨_, rfl⟩
  simp only [if_pos (show a.size + 1 ≤ 9223372036854775807 by omega), if_pos (show (a ++ (⟨#[32]⟩ : ByteArray)).size + b.size ≤ 9223372036854775807 by omega), hj]
  rw [hj] at hjs htb
  refine bind1 (words_some a [] ha) ?_
  refine bind1 (words_some b [] hb) ?_
  refine bind1 (words_some j [] (by omega)) ?_
  have hfj := fault_joined (tb a) (tb b)
  rw [← htb, tb_length, tb_length, tb_length] at hfj
  -- the joined text is right where both are; its words
  have okj : (wordsB j []).2 = 0 → (wordsB a []).2 = 0 ∧ (wordsB b []).2 = 0 := by
    intro h
    obtain ⟨_, hf, h24, h48⟩ := wordsB_le j [] h
    obtain ⟨fa, fb⟩ := hfj.1 hf
    rw [htb, runs_join (tb a) (tb b) (by rw [tb_length]; exact fa)] at h24 h48
    rw [List.length_append] at h48
    rw [wordsB_of a fa (fun x hx => h24 x (by rw [List.map_append]; exact List.mem_append_left _ hx)) (by omega), wordsB_of b fb (fun x hx => h24 x (by rw [List.map_append]; exact List.mem_append_right _ hx)) (by omega)]
    exact ⟨rfl, rfl⟩
  have bad : (wordsB j []).2 ≠ 0 → Ev (fun k => incipitlaw09_WordsJoins.j1 k (wordsB a []).1 (wordsB b []).1 (wordsB j []).1 (wordsB j []).2 true) true := by
    intro h
    refine ev1 _ (fun k => by simp only [incipitlaw09_WordsJoins.j1]; rfl) ?_
    simp only [if_true, if_neg h]
    exact bind1 rfl (Ev.now _)
  by_cases ea : (wordsB a []).2 = 0
  · simp only [if_pos ea]
    by_cases eb : (wordsB b []).2 = 0
    · simp only [show ((wordsB b []).2 != 0) = false from by rw [eb]; rfl]
      obtain ⟨ka, fa, a24, a48⟩ := wordsB_le a [] ea
      obtain ⟨kb, fb, b24, b48⟩ := wordsB_le b [] eb
      have hrun : runsL (tb j) = runsL (tb a) ++ runsL (tb b) := by rw [htb]; exact runs_join _ _ (by rw [tb_length]; exact fa)
      obtain ⟨xs, hxs⟩ : ∃ xs, (runsL (tb a)).map st = xs := ⟨_, rfl⟩
      obtain ⟨ys, hys⟩ : ∃ ys, (runsL (tb b)).map st = ys := ⟨_, rfl⟩
      have lx : (runsL (tb a)).length = xs.length := by rw [← hxs, List.length_map]
      have ly : (runsL (tb b)).length = ys.length := by rw [← hys, List.length_map]
      rw [hxs] at ka a24
      rw [hys] at kb b24
      have hz : (runsL (tb j)).map st = xs ++ ys := by rw [hrun, List.map_append, hxs, hys]
      have all24 : ∀ x ∈ xs ++ ys, x.size ≤ 24 := fun x hx => (List.mem_append.1 hx).elim (a24 x) (b24 x)
      have fj : faultB j = (j.size : Int) := by rw [faultB_eq, hfj.2 ⟨fa, fb⟩]
      refine ev1 _ (fun k => by simp only [incipitlaw09_WordsJoins.j1]; rfl) ?_
      simp only [Bool.false_eq_true, if_false, ka, kb, keepW_len]
      rw [w64 (x := (xs.length : Int) + (ys.length : Int)) (by omega) (by omega)]
      by_cases hs : (xs.length : Int) + (ys.length : Int) > 48
      · simp only [if_pos hs]
        have : wordsB j [] = ([], 7) := by
          unfold wordsB
          rw [if_pos fj, hz]
          exact wordsF_full _ all24 (by rw [List.length_append]; omega)
        simp only [this, if_true]
        exact bind1 rfl (Ev.now _)
      · simp only [if_neg hs]
        have : wordsB j [] = (keepW [] 0 (xs ++ ys), 0) := by
          unfold wordsB
          rw [if_pos fj, hz]
          exact wordsF_all [] _ 0 all24 (by rw [List.length_append]; omega)
        simp only [this, if_true]
        refine ev1 _ (fun k => by simp only [incipitlaw09_WordsJoins.j2]; rfl) ?_
        have hl : (((keepW [] 0 (xs ++ ys)).length : Int) != (xs.length : Int) + (ys.length : Int)) = false := by
          rw [keepW_len, List.length_append, bne_eq_false_iff_eq]; omega
        simp only [hl, Bool.false_eq_true, if_false]
        exact joins_loop xs ys (by omega) _ 0 rfl (Nat.zero_le _)
    · simp only [show ((wordsB b []).2 != 0) = true from bne_iff_ne.2 eb]
      exact bad (fun h => eb (okj h).2)
  · simp only [if_neg ea]
    exact bad (fun h => ea (okj h).1)
end Go.Proofs.YtjeomkojpkienaaDoor.Pure
