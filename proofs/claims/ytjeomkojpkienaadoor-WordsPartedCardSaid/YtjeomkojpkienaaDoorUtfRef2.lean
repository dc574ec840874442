/-
  The plain law of texts: the document's letters, faults and small texts come to the same as the plain ones.
-/
import Derived.Test.YtjeomkojpkienaaDoorUtfRef
set_option linter.unusedVariables false
set_option linter.unusedSimpArgs false
namespace Go.Proofs.YtjeomkojpkienaaDoor.Ref
open Go.RowKit Go.Proofs.YtjeomkojpkienaaDoor Go.Proofs.YtjeomkojpkienaaDoorZ.ZA Go.Proofs.YtjeomkojpkienaaDoorW.PrintWords

def flatP (P : List (Int × Int)) : List Int := P.flatMap fun p => [p.1, p.2]
theorem flatP_len (P : List (Int × Int)) : (flatP P).length = 2 * P.length := by
  induction P with
  | nil => rfl
  | cons p r ih => simp only [flatP, List.flatMap_cons, List.length_append, List.length_cons, List.length_nil] at ih ⊢; omega
theorem flatP_at (P : List (Int × Int)) (j : Nat) (h : j < P.length) : (flatP P)[2 * j]? = some P[j].1 ∧ (flatP P)[2 * j + 1]? = some P[j].2 := by
  induction P generalizing j with
  | nil => simp at h
  | cons p r ih =>
    cases j with
    | zero => simp [flatP]
    | succ j =>
      have := ih j (by simpa using h)
      have e : flatP (p :: r) = p.1 :: p.2 :: flatP r := rfl
      rw [e]
      constructor
      · rw [show 2 * (j + 1) = 2 * j + 1 + 1 by omega]; simpa using this.1
      · rw [show 2 * (j + 1) + 1 = (2 * j + 1) + 1 + 1 by omega]; simpa using this.2
theorem inPairs_cons (p : Int × Int) (r : List (Int × Int)) (c : Int) : inPairs (p :: r) c = (decide (p.1 ≤ c) && decide (c ≤ p.2) || inPairs r c) := rfl
theorem letter_loop (P : List (Int × Int)) (c : Int) (hP : P.length ≤ 1000) : ∀ (d j : Nat), P.length - j = d → j ≤ P.length → Ev (fun k => incipitref08_Letter.l0 k c (flatP P) ((2 * j : Nat) : Int)) (inPairs (P.drop j) c) := by
  intro d
  induction d with
  | zero =>
    intro j hd hj
    refine ev1 _ (fun k => by simp only [incipitref08_Letter.l0]; rfl) ?_
    have hl := flatP_len P
    simp only [if_neg (show ¬ ((2 * j : Nat) : Int) < ((flatP P).length : Int) by omega)]
    rw [List.drop_of_length_le (by omega)]
    exact Ev.now _
  | succ d ih =>
    intro j hd hj
    have hl := flatP_len P
    have hj2 : j < P.length := by omega
    obtain ⟨h1, h2⟩ := flatP_at P j hj2
    have hn := ih (j + 1) (by omega) (by omega)
    have e1 : rd (flatP P) ((2 * j : Nat) : Int) = P[j].1 := by unfold rd; rw [Int.toNat_natCast, List.getD_eq_getElem?_getD, h1]; rfl
    have w1 : wrap64 (((2 * j : Nat) : Int) + 1) = ((2 * j + 1 : Nat) : Int) := by rw [w64 (by omega) (by omega)]; rfl
    have w2 : wrap64 (((2 * j : Nat) : Int) + 2) = ((2 * (j + 1) : Nat) : Int) := by rw [w64 (by omega) (by omega)]; omega
    have e2 : rd (flatP P) ((2 * j + 1 : Nat) : Int) = P[j].2 := by unfold rd; rw [Int.toNat_natCast, List.getD_eq_getElem?_getD, h2]; rfl
    refine ev1 _ (fun k => by simp only [incipitref08_Letter.l0]; rfl) ?_
    rw [w1, w2, e1, e2]
    simp only [if_pos (show ((2 * j : Nat) : Int) < ((flatP P).length : Int) by omega), if_pos (show (0 : Int) ≤ ((2 * j : Nat) : Int) by omega), if_pos (show (0 : Int) ≤ ((2 * j + 1 : Nat) : Int) by omega), if_pos (show ((2 * j + 1 : Nat) : Int) < ((flatP P).length : Int) by omega)]
    have hd2 : P.drop j = P[j] :: P.drop (j + 1) := List.drop_eq_getElem_cons hj2
    rw [hd2]
    by_cases c1 : P[j].1 ≤ c
    · by_cases c2 : c ≤ P[j].2
      · simp only [if_pos c1, if_pos c2]
        rw [inPairs_cons, decide_eq_true c1, decide_eq_true c2, Bool.and_self, Bool.true_or]
        exact Ev.now _
      · simp only [if_pos c1, if_neg c2]
        rw [inPairs_cons, decide_eq_false c2, Bool.and_false, Bool.false_or]
        exact hn
    · simp only [if_neg c1]
      rw [inPairs_cons, decide_eq_false c1, Bool.false_and, Bool.false_or]
      exact hn
theorem ref_letter (c : Int) : Ev (fun k => incipitref08_Letter.f k c) (letterB c) := by
  unfold incipitref08_Letter.f
  exact letter_loop letters c (by decide) letters.length 0 rfl (Nat.zero_le _)

theorem ref_fault_from (s : ByteArray) (hs : s.size ≤ 140737488351232) : ∀ (d i : Nat), s.size - i ≤ d → i ≤ s.size → Ev (fun k => incipitref08_Fault.l0 k s (i : Int)) ((i + faultL ((tb s).drop i) : Nat) : Int) := by
  intro d
  induction d with
  | zero =>
    intro i hd hi
    refine ev1 _ (fun k => by simp only [incipitref08_Fault.l0]; rfl) ?_
    refine Ev.bind (ref_next s (i : Int) hs) ?_
    rw [nextB_out s i (by omega), List.drop_of_length_le (by rw [tb_length]; omega), faultL_nil]
    simp only [if_true]
    exact Ev.now _
  | succ d ih =>
    intro i hd hi
    refine ev1 _ (fun k => by simp only [incipitref08_Fault.l0]; rfl) ?_
    refine Ev.bind (ref_next s (i : Int) hs) ?_
    rw [nextB_nat, faultL_eq]
    have hle := (nxt_le ((tb s).drop i)).1
    rw [List.length_drop, tb_length] at hle
    by_cases hp : 0 < (nxt ((tb s).drop i)).2
    · simp only [if_neg (show ¬ ((nxt ((tb s).drop i)).2 : Int) = 0 by omega), if_pos hp]
      rw [w64 (by omega) (by omega)]
      have := ih (i + (nxt ((tb s).drop i)).2) (by omega) (by omega)
      rw [List.drop_drop, ← Nat.add_assoc]
      exact this
    · simp only [if_pos (show ((nxt ((tb s).drop i)).2 : Int) = 0 by omega), if_neg hp]
      exact Ev.now _
theorem ref_fault (s : ByteArray) (hs : s.size ≤ 140737488351232) : Ev (fun k => incipitref08_Fault.f k s) (faultB s) := by
  unfold incipitref08_Fault.f
  rw [faultB_eq]
  have := ref_fault_from s hs s.size 0 (by omega) (by omega)
  rw [List.drop_zero, Nat.zero_add] at this
  exact this
theorem fault_some (s : ByteArray) (hs : s.size ≤ 140737488351232) : utf_Fault.f s = some (faultL (tb s) : Int) := by
  unfold utf_Fault.f
  rw [if_pos (by omega), faultB_eq]
theorem small_some (s : ByteArray) (hs : s.size ≤ 140737488351232) : utf_Small.f s = some (smallT s) := by
  unfold utf_Small.f
  rw [if_pos (by omega)]
theorem ref_may (s : ByteArray) (hs : s.size ≤ 140737488351232) : Ev (fun k => incipitref08_May.f k s) (decide (faultL (tb s) = s.size)) := by
  unfold incipitref08_May.f
  refine Ev.bind (ref_fault s hs) ?_
  rw [faultB_eq]
  rw [show ((faultL (tb s) : Int) == (s.size : Int)) = decide (faultL (tb s) = s.size) by rw [Bool.eq_iff_iff]; simp; omega]
  exact Ev.now _
theorem may_some (s : ByteArray) (hs : s.size ≤ 140737488351232) : utf_May.f s = some (decide (faultL (tb s) = s.size)) := by
  unfold utf_May.f
  rw [fault_some s hs]
  simp only [Option.bind_some, Option.some.injEq]
  rw [Bool.eq_iff_iff]; simp; omega
theorem ref_small_from (s : ByteArray) (hs : s.size ≤ 140737488351232) : ∀ (d i : Nat) (acc : ByteArray), s.size - i ≤ d → i ≤ s.size → acc.size = i → Ev (fun k => incipitref08_Small.l0 k s acc (i : Int)) (st (tb acc ++ smallL ((tb s).drop i))) := by
  intro d
  induction d with
  | zero =>
    intro i acc hd hi ha
    refine ev1 _ (fun k => by simp only [incipitref08_Small.l0]; rfl) ?_
    simp only [if_neg (show ¬ (i : Int) < (s.size : Int) by omega)]
    rw [List.drop_of_length_le (by rw [tb_length]; omega)]
    simp only [smallL, List.map_nil, List.append_nil, st_tb]
    exact Ev.now _
  | succ d ih =>
    intro i acc hd hi ha
    by_cases hlt : i < s.size
    · have hd2 : (tb s).drop i = (tb s)[i]'(by rw [tb_length]; exact hlt) :: (tb s).drop (i + 1) := List.drop_eq_getElem_cons (by rw [tb_length]; exact hlt)
      obtain ⟨b, hb⟩ : ∃ b, (tb s)[i]'(by rw [tb_length]; exact hlt) = b := ⟨_, rfl⟩
      have hbt : bt s (i : Int) = (b.toNat : Int) := by
        rw [bt_nat, List.getD_eq_getElem?_getD, List.getElem?_eq_getElem (by rw [tb_length]; exact hlt), hb]; rfl
      have hbl := b.toNat_lt
      have key : ∀ x : UInt8, lowB b = x → Ev (fun k => (some ([(x.toNat : Int)] : List Int)).bind fun y182 => if acc.size + (strOfNums y182).size ≤ 9223372036854775807 then incipitref08_Small.l0 k s (acc ++ strOfNums y182) (wrap64 ((i : Int) + 1)) else none) (st (tb acc ++ smallL ((tb s).drop i))) := by
        intro x hx
        refine bind1 rfl ?_
        have hsz : (strOfNums [(x.toNat : Int)]).size = 1 := rfl
        have htb : tb (strOfNums [(x.toNat : Int)]) = [x] := by rw [tb_nums]; simp
        simp only [if_pos (show acc.size + (strOfNums [(x.toNat : Int)]).size ≤ 9223372036854775807 by omega)]
        rw [w64 (by omega) (by omega)]
        have := ih (i + 1) (acc ++ strOfNums [(x.toNat : Int)]) (by omega) (by omega) (by rw [ByteArray.size_append, hsz]; omega)
        rw [tb_append, htb] at this
        rw [hd2, hb]
        rw [show smallL (b :: (tb s).drop (i + 1)) = x :: smallL ((tb s).drop (i + 1)) by rw [← hx]; rfl]
        rw [List.append_cons]
        exact this
      refine ev1 _ (fun k => by simp only [incipitref08_Small.l0]; rfl) ?_
      simp only [if_pos (show (i : Int) < (s.size : Int) by omega), if_pos (show (0 : Int) ≤ (i : Int) by omega), hbt]
      by_cases c1 : 65 ≤ b.toNat ∧ b.toNat ≤ 90
      · simp only [if_pos (show (b.toNat : Int) ≥ 65 by omega), if_pos (show (b.toNat : Int) ≤ 90 by omega)]
        have hx : ((b.toNat : Int) + 32) % 256 = ((lowB b).toNat : Int) := by rw [lowB_nat, if_pos c1]; omega
        rw [hx]
        exact key (lowB b) rfl
      · have hx : lowB b = b := by apply UInt8.toNat_inj.1; rw [lowB_nat, if_neg c1]
        by_cases c2 : 65 ≤ b.toNat
        · simp only [if_pos (show (b.toNat : Int) ≥ 65 by omega), if_neg (show ¬ (b.toNat : Int) ≤ 90 by omega)]
          exact key b hx
        · simp only [if_neg (show ¬ (b.toNat : Int) ≥ 65 by omega)]
          exact key b hx
    · refine ev1 _ (fun k => by simp only [incipitref08_Small.l0]; rfl) ?_
      simp only [if_neg (show ¬ (i : Int) < (s.size : Int) by omega)]
      rw [List.drop_of_length_le (by rw [tb_length]; omega)]
      simp only [smallL, List.map_nil, List.append_nil, st_tb]
      exact Ev.now _
theorem ref_small (s : ByteArray) (hs : s.size ≤ 140737488351232) : Ev (fun k => incipitref08_Small.f k s) (smallT s) := by
  unfold incipitref08_Small.f
  have := ref_small_from s hs s.size 0 (⟨#[]⟩ : ByteArray) (by omega) (by omega) rfl
  rw [List.drop_zero] at this
  exact this
end Go.Proofs.YtjeomkojpkienaaDoor.Ref
