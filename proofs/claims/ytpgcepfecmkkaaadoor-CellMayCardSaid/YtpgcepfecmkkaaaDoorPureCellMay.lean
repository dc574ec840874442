/-
  CellMay: the plain law.
-/
import Derived.Test.YtpgcepfecmkkaaaDoorZAx
set_option linter.unusedVariables false
set_option linter.unusedSimpArgs false
namespace Go.Proofs.YtpgcepfecmkkaaaDoor.Ref
open Go.RowKit Go.Proofs.YtpgcepfecmkkaaaDoor Go.Proofs.YtpgcepfecmkkaaaDoorZ.ZA Go.Proofs.YtpgcepfecmkkaaaDoorW.PrintWords

theorem w64 {x : Int} (h1 : -9223372036854775808 ≤ x) (h2 : x ≤ 9223372036854775807) : wrap64 x = x := by unfold wrap64; omega
theorem bt_nat (s : ByteArray) (i : Nat) : bt s (i : Int) = (((tb s).getD i 0).toNat : Int) := by
  unfold bt
  simp only [Int.toNat_natCast]
  split
  · rename_i h
    rw [List.getD_eq_getElem?_getD, List.getElem?_eq_getElem (by rw [tb_length]; exact h)]
    rfl
  · rename_i h
    rw [List.getD_eq_getElem?_getD, List.getElem?_eq_none (by rw [tb_length]; omega)]
    rfl
/-! ### a code point's bytes -/
/-- A loop's round. -/
theorem ev1 {α : Type} {g : Nat → Option α} {r : α} (f : Nat → Option α) (h : ∀ k, g (k + 1) = f k) (k : Ev f r) : Ev g r := Ev.step h k
theorem bind1 {α β : Type} {x : Option α} {a : α} {f : Nat → α → Option β} {r : β} (h : x = some a) (k : Ev (fun n => f n a) r) : Ev (fun n => x.bind (f n)) r := by
  rw [h]; exact k
end Go.Proofs.YtpgcepfecmkkaaaDoor.Ref
set_option linter.unusedVariables false
set_option linter.unusedSimpArgs false
namespace Go.Proofs.YtpgcepfecmkkaaaDoor.Ref
open Go.RowKit Go.Proofs.YtpgcepfecmkkaaaDoor Go.Proofs.YtpgcepfecmkkaaaDoorZ.ZA Go.Proofs.YtpgcepfecmkkaaaDoorW.PrintWords

end Go.Proofs.YtpgcepfecmkkaaaDoor.Ref
set_option linter.unusedVariables false
set_option linter.unusedSimpArgs false
namespace Go.Proofs.YtpgcepfecmkkaaaDoor.Ref
open Go.RowKit Go.Proofs.YtpgcepfecmkkaaaDoor Go.Proofs.YtpgcepfecmkkaaaDoorZ.ZA Go.Proofs.YtpgcepfecmkkaaaDoorW.PrintWords

theorem bt_tb (s : ByteArray) (i : Nat) (h : i < (tb s).length) : bt s (i : Int) = ((tb s)[i].toNat : Int) := by
  rw [bt_nat, List.getD_eq_getElem?_getD, List.getElem?_eq_getElem h]; rfl
theorem name_l0 (s : ByteArray) (hs : s.size ≤ 140737488351232) : ∀ (d i : Nat), s.size - i = d → i ≤ s.size → 0 < i → Ev (fun k => incipitref11_Name.l0 k s (i : Int)) (nameFrom i ((tb s).drop i)) := by
  intro d
  induction d with
  | zero =>
    intro i hd hi h0
    refine ev1 _ (fun k => by simp only [incipitref11_Name.l0]; rfl) ?_
    simp only [if_neg (show ¬ (i : Int) < (s.size : Int) by omega)]
    rw [List.drop_of_length_le (by rw [tb_length]; omega)]
    exact Ev.now _
  | succ d ih =>
    intro i hd hi h0
    have hlt : i < (tb s).length := by rw [tb_length]; omega
    refine ev1 _ (fun k => by simp only [incipitref11_Name.l0]; rfl) ?_
    rw [List.drop_eq_getElem_cons hlt, nameFrom, decide_eq_false (show ¬ i = 0 by omega)]
    simp only [if_pos (show (i : Int) < (s.size : Int) by omega), if_pos (show (0 : Int) ≤ (i : Int) by omega), bt_tb s i hlt]
    have hw : wrap64 ((i : Int) + 1) = ((i + 1 : Nat) : Int) := by rw [w64 (by omega) (by omega)]; omega
    rw [hw]
    have next := ih (i + 1) (by omega) (by omega) (by omega)
    generalize (tb s)[i].toNat = c
    have no : lb c false = false → Ev (fun _ : Nat => (some false : Option Bool)) (lb c false && nameFrom (i + 1) ((tb s).drop (i + 1))) := fun h => by rw [h]; exact Ev.now _
    have yes : lb c false = true → Ev (fun k => incipitref11_Name.l0 k s ((i + 1 : Nat) : Int)) (lb c false && nameFrom (i + 1) ((tb s).drop (i + 1))) := fun h => by rw [h, Bool.true_and]; exact next
    have hlb : lb c false = ((decide (97 ≤ c) && decide (c ≤ 122)) || ((decide (48 ≤ c) && decide (c ≤ 57)) || decide (c = 95))) := by unfold lb; rfl
    by_cases h1 : (c : Int) ≥ 97
    · simp only [if_pos h1, if_pos (show (c : Int) ≥ 48 by omega)]
      by_cases h2 : (c : Int) ≤ 122
      · simp only [if_pos h2]; exact yes (by rw [hlb]; simp; omega)
      · simp only [if_neg h2, if_neg (show ¬ (c : Int) ≤ 57 by omega), if_neg (show ¬ (c : Int) = 95 by omega)]; exact no (by rw [hlb]; simp; omega)
    · simp only [if_neg h1]
      by_cases h3 : (c : Int) ≥ 48
      · simp only [if_pos h3]
        by_cases h4 : (c : Int) ≤ 57
        · simp only [if_pos h4]; exact yes (by rw [hlb]; simp; omega)
        · simp only [if_neg h4]
          by_cases h5 : (c : Int) = 95
          · simp only [if_pos h5]; exact yes (by rw [hlb]; simp; omega)
          · simp only [if_neg h5]; exact no (by rw [hlb]; simp; omega)
      · simp only [if_neg h3, if_neg (show ¬ (c : Int) = 95 by omega)]; exact no (by rw [hlb]; simp; omega)
theorem ref_name (s : ByteArray) (hs : s.size ≤ 9223372036854775807) : Ev (fun k => incipitref11_Name.f k s) (nameB s) := by
  unfold incipitref11_Name.f
  have out : nameB s = false → Ev (fun k => incipitref11_Name.j0 k s true) (nameB s) := fun h => by
    refine ev1 _ (fun k => by simp only [incipitref11_Name.j0]; rfl) ?_
    simp only [if_true, h]
    exact Ev.now _
  by_cases h1 : (s.size : Int) < 1
  · simp only [if_pos h1]; exact out (by unfold nameB; rw [decide_eq_false (show ¬ 0 < s.size by omega)]; simp)
  by_cases h2 : (s.size : Int) > 16
  · simp only [if_neg h1, if_pos h2]; exact out (by unfold nameB; rw [decide_eq_false (show ¬ s.size ≤ 16 by omega)]; simp)
  have hlt : 0 < (tb s).length := by rw [tb_length]; omega
  have e0 : bt s 0 = ((tb s)[0].toNat : Int) := bt_tb s 0 hlt
  have hd : tb s = (tb s)[0] :: (tb s).drop 1 := by rw [← List.drop_eq_getElem_cons hlt, List.drop_zero]
  have hn : nameB s = (lb (tb s)[0].toNat true && nameFrom 1 ((tb s).drop 1)) := by
    unfold nameB
    rw [decide_eq_true (show 0 < s.size by omega), decide_eq_true (show s.size ≤ 16 by omega)]
    conv => lhs; rw [hd]
    rw [nameFrom]
    simp
  have hlb : ∀ c, lb c true = (decide (97 ≤ c) && decide (c ≤ 122)) := fun c => by unfold lb; simp
  simp only [if_neg h1, if_neg h2, if_pos (show 0 < (s.size : Int) by omega), e0]
  by_cases h3 : ((tb s)[0].toNat : Int) < 97
  · simp only [if_pos h3]; exact out (by rw [hn, hlb, decide_eq_false (show ¬ 97 ≤ (tb s)[0].toNat by omega)]; rfl)
  by_cases h4 : ((tb s)[0].toNat : Int) > 122
  · simp only [if_neg h3, decide_eq_true h4]; exact out (by rw [hn, hlb, decide_eq_false (show ¬ (tb s)[0].toNat ≤ 122 by omega)]; simp)
  simp only [if_neg h3, decide_eq_false h4]
  refine ev1 _ (fun k => by simp only [incipitref11_Name.j0]; rfl) ?_
  simp only [Bool.false_eq_true, if_false]
  rw [hn, hlb, decide_eq_true (show 97 ≤ (tb s)[0].toNat by omega), decide_eq_true (show (tb s)[0].toNat ≤ 122 by omega), Bool.true_and, Bool.true_and]
  exact name_l0 s (by omega) _ 1 rfl (by omega) (by omega)

/-! ### columns -/
def col (l : List S39) (i : Nat) : S39 := rd_T39 l (i : Int)
theorem col_at (l : List S39) (i : Nat) (h : i < l.length) : col l i = l[i] := by simp [col, rd_T39, List.getD, h]
def okCol (l : List S39) (i : Nat) : Prop := nameB (col l i).f0 = true ∧ ((col l i).f1 = 1 ∨ (col l i).f1 = 2)
def refCol (l : List S39) (i : Nat) : Prop := okCol l i ∧ ∀ j, i < j → j < l.length → (col l i).f0.toList ≠ (col l j).f0.toList
theorem may_inner (l : List S39) (hl : l.length ≤ 6) (i : Nat) (hi : i < l.length) (B : Bool) (hB : Ev (fun k => incipitref11_May.l0 k l ((i + 1 : Nat) : Int)) B) : ∀ (d j : Nat), l.length - j = d → j ≤ l.length →
    ∃ b, Ev (fun k => incipitref11_May.l1 k l (i : Int) (j : Int)) b ∧ (b = true ↔ (∀ m, j ≤ m → m < l.length → (col l i).f0.toList ≠ (col l m).f0.toList) ∧ B = true) := by
  intro d
  induction d with
  | zero =>
    intro j hd hj
    refine ⟨B, ?_, ⟨fun h => ⟨fun m h1 h2 => by omega, h⟩, fun h => h.2⟩⟩
    refine ev1 _ (fun k => by simp only [incipitref11_May.l1]; rfl) ?_
    have hw : wrap64 ((i : Int) + 1) = ((i + 1 : Nat) : Int) := by rw [w64 (by omega) (by omega)]; omega
    simp only [if_neg (show ¬ (j : Int) < (l.length : Int) by omega), hw]
    exact hB
  | succ d ih =>
    intro j hd hj
    have hjl : j < l.length := by omega
    have hw : wrap64 ((j : Int) + 1) = ((j + 1 : Nat) : Int) := by rw [w64 (by omega) (by omega)]; omega
    by_cases he : (col l i).f0.toList = (col l j).f0.toList
    · refine ⟨false, ?_, ⟨fun h => (by cases h), fun h => absurd he (h.1 j (Nat.le_refl _) hjl)⟩⟩
      refine ev1 _ (fun k => by simp only [incipitref11_May.l1]; rfl) ?_
      have he' : (rd_T39 l (i : Int)).f0.toList = (rd_T39 l (j : Int)).f0.toList := he
      simp only [if_pos (show (j : Int) < (l.length : Int) by omega), if_pos (show (0 : Int) ≤ (i : Int) by omega), if_pos (show (i : Int) < (l.length : Int) by omega), if_pos (show (0 : Int) ≤ (j : Int) by omega), if_pos he']
      exact Ev.now _
    · obtain ⟨b, h1, h2⟩ := ih (j + 1) (by omega) (by omega)
      refine ⟨b, ?_, h2.trans ⟨fun h => ⟨fun m hm hml => ?_, h.2⟩, fun h => ⟨fun m hm hml => h.1 m (by omega) hml, h.2⟩⟩⟩
      · refine ev1 _ (fun k => by simp only [incipitref11_May.l1]; rfl) ?_
        have he' : ¬ (rd_T39 l (i : Int)).f0.toList = (rd_T39 l (j : Int)).f0.toList := he
        simp only [if_pos (show (j : Int) < (l.length : Int) by omega), if_pos (show (0 : Int) ≤ (i : Int) by omega), if_pos (show (i : Int) < (l.length : Int) by omega), if_pos (show (0 : Int) ≤ (j : Int) by omega), if_neg he', hw]
        exact h1
      · rcases Nat.eq_or_lt_of_le hm with h3 | h3
        · rw [← h3]; exact he
        · exact h.1 m h3 hml
theorem may_outer (l : List S39) (hl : l.length ≤ 6) (hsz : ∀ x ∈ l, x.f0.size ≤ 9223372036854775807) : ∀ (d i : Nat), l.length - i = d → i ≤ l.length →
    ∃ b, Ev (fun k => incipitref11_May.l0 k l (i : Int)) b ∧ (b = true ↔ ∀ m, i ≤ m → m < l.length → refCol l m) := by
  intro d
  induction d with
  | zero =>
    intro i hd hi
    refine ⟨true, ?_, ⟨fun _ m h1 h2 => by omega, fun _ => rfl⟩⟩
    refine ev1 _ (fun k => by simp only [incipitref11_May.l0]; rfl) ?_
    simp only [if_neg (show ¬ (i : Int) < (l.length : Int) by omega)]
    exact Ev.now _
  | succ d ih =>
    intro i hd hi
    have hil : i < l.length := by omega
    obtain ⟨B, hB1, hB2⟩ := ih (i + 1) (by omega) (by omega)
    obtain ⟨b, hb1, hb2⟩ := may_inner l hl i hil B hB1 _ (i + 1) rfl (by omega)
    have hsi : (col l i).f0.size ≤ 9223372036854775807 := by rw [col_at l i hil]; exact hsz _ (List.getElem_mem hil)
    have hw : wrap64 ((i : Int) + 1) = ((i + 1 : Nat) : Int) := by rw [w64 (by omega) (by omega)]; omega
    have bad : ¬ okCol l i → ∀ f : Nat → Option Bool, (Ev (fun k => incipitref11_May.j2 k l (i : Int) true) false → Ev f false) → ∃ b, Ev f b ∧ (b = true ↔ ∀ m, i ≤ m → m < l.length → refCol l m) := fun hno f hf => by
      refine ⟨false, hf ?_, ⟨fun h => (by cases h), fun h => absurd (h i (Nat.le_refl _) hil).1 hno⟩⟩
      refine ev1 _ (fun k => by simp only [incipitref11_May.j2]; rfl) ?_
      simp only [if_true]
      exact Ev.now _
    have hnm : Ev (fun k => incipitref11_Name.f k (rd_T39 l (i : Int)).f0) (nameB (col l i).f0) := ref_name _ hsi
    by_cases hn : nameB (col l i).f0 = true
    · rw [hn] at hnm
      by_cases hk : (col l i).f1 = 1 ∨ (col l i).f1 = 2
      · refine ⟨b, ?_, hb2.trans ?_⟩
        · refine ev1 _ (fun k => by simp only [incipitref11_May.l0]; rfl) ?_
          simp only [if_pos (show (i : Int) < (l.length : Int) by omega), if_pos (show (0 : Int) ≤ (i : Int) by omega)]
          refine Ev.bind hnm ?_
          have hk' : (rd_T39 l (i : Int)).f1 = 1 ∨ (rd_T39 l (i : Int)).f1 = 2 := hk
          simp only [if_true, if_neg (show ¬ (rd_T39 l (i : Int)).f1 < 1 by omega), decide_eq_false (show ¬ (rd_T39 l (i : Int)).f1 > 2 by omega)]
          refine ev1 _ (fun k => by simp only [incipitref11_May.j2]; rfl) ?_
          simp only [Bool.false_eq_true, if_false, hw]
          exact hb1
        · rw [hB2]
          constructor
          · intro h m hm hml
            rcases Nat.eq_or_lt_of_le hm with h3 | h3
            · rw [← h3]; exact ⟨⟨hn, hk⟩, fun j hj hjl => h.1 j hj hjl⟩
            · exact h.2 m h3 hml
          · intro h
            exact ⟨fun m hm hml => (h i (Nat.le_refl _) hil).2 m hm hml, fun m hm hml => h m (by omega) hml⟩
      · refine bad (fun h => hk h.2) _ (fun hj => ?_)
        refine ev1 _ (fun k => by simp only [incipitref11_May.l0]; rfl) ?_
        simp only [if_pos (show (i : Int) < (l.length : Int) by omega), if_pos (show (0 : Int) ≤ (i : Int) by omega)]
        refine Ev.bind hnm ?_
        have hk' : ¬ ((rd_T39 l (i : Int)).f1 = 1 ∨ (rd_T39 l (i : Int)).f1 = 2) := hk
        simp only [if_true]
        by_cases h1 : (rd_T39 l (i : Int)).f1 < 1
        · simp only [if_pos h1]; exact hj
        · simp only [if_neg h1, decide_eq_true (show (rd_T39 l (i : Int)).f1 > 2 by omega)]; exact hj
    · refine bad (fun h => hn h.1) _ (fun hj => ?_)
      rw [Bool.eq_false_iff.2 hn] at hnm
      refine ev1 _ (fun k => by simp only [incipitref11_May.l0]; rfl) ?_
      simp only [if_pos (show (i : Int) < (l.length : Int) by omega), if_pos (show (0 : Int) ≤ (i : Int) by omega)]
      refine Ev.bind hnm ?_
      simp only [Bool.false_eq_true, if_false]
      exact hj
theorem colB_iff (l : List S39) (i : Nat) (h : i < l.length) : colB l i = true ↔ okCol l i ∧ ∀ j, j < i → (col l j).f0.toList ≠ (col l i).f0.toList := by
  unfold colB okCol
  have e : rd_T39 l (i : Int) = col l i := rfl
  rw [e]
  simp only [Bool.and_eq_true, Bool.or_eq_true, decide_eq_true_eq, Bool.not_eq_true', and_assoc]
  refine and_congr_right fun _ => and_congr_right fun _ => ?_
  rw [Bool.eq_false_iff, ne_eq, List.any_eq_true]
  constructor
  · intro hno j hj he
    refine hno ⟨l[j], ?_, by rw [← col_at l j (by omega)]; exact decide_eq_true he⟩
    rw [List.mem_take_iff_getElem]
    exact ⟨j, by omega, rfl⟩
  · rintro hno ⟨x, hx, he⟩
    rw [List.mem_take_iff_getElem] at hx
    obtain ⟨j, hj, rfl⟩ := hx
    exact hno j (by omega) (by rw [col_at l j (by omega)]; exact of_decide_eq_true he)
theorem ref_may11 (l : List S39) (hsz : ∀ x ∈ l, x.f0.size ≤ 9223372036854775807) : Ev (fun k => incipitref11_May.f k l) (mayB l) := by
  unfold incipitref11_May.f
  have out : mayB l = false → Ev (fun k => incipitref11_May.j0 k l true) (mayB l) := fun h => by
    refine ev1 _ (fun k => by simp only [incipitref11_May.j0]; rfl) ?_
    simp only [if_true, h]
    exact Ev.now _
  by_cases h1 : (l.length : Int) < 1
  · simp only [if_pos h1]; exact out (by unfold mayB; rw [decide_eq_false (show ¬ 0 < l.length by omega)]; simp)
  by_cases h2 : (l.length : Int) > 6
  · simp only [if_neg h1, decide_eq_true h2]; exact out (by unfold mayB; rw [decide_eq_false (show ¬ l.length ≤ 6 by omega)]; simp)
  simp only [if_neg h1, decide_eq_false h2]
  refine ev1 _ (fun k => by simp only [incipitref11_May.j0]; rfl) ?_
  simp only [Bool.false_eq_true, if_false]
  obtain ⟨b, hb1, hb2⟩ := may_outer l (by omega) hsz _ 0 rfl (Nat.zero_le _)
  have e : b = mayB l := by
    rw [Bool.eq_iff_iff, hb2]
    unfold mayB
    rw [decide_eq_true (show 0 < l.length by omega), decide_eq_true (show l.length ≤ 6 by omega), Bool.and_true, Bool.and_true, List.all_eq_true]
    constructor
    · intro h m hm
      have hm' := List.mem_range.1 hm
      exact (colB_iff l m hm').2 ⟨(h m (Nat.zero_le _) hm').1, fun j hj => (h j (Nat.zero_le _) (by omega)).2 m hj hm'⟩
    · intro h m _ hm
      refine ⟨((colB_iff l m hm).1 (h m (List.mem_range.2 hm))).1, fun j hj hjl => ?_⟩
      exact ((colB_iff l j hjl).1 (h j (List.mem_range.2 hjl))).2 m hj
  rw [← e]
  exact hb1
theorem sameCols_from (l : List S39) (hl : l.length ≤ 1000000) : ∀ (d i : Nat), l.length - i = d → i ≤ l.length → Ev (fun k => incipitref11_SameCols.l0 k l l (i : Int)) true := by
  intro d
  induction d with
  | zero =>
    intro i hd hi
    refine ev1 _ (fun k => by simp only [incipitref11_SameCols.l0]; rfl) ?_
    simp only [if_neg (show ¬ (i : Int) < (l.length : Int) by omega)]
    exact Ev.now _
  | succ d ih =>
    intro i hd hi
    refine ev1 _ (fun k => by simp only [incipitref11_SameCols.l0]; rfl) ?_
    simp only [if_pos (show (i : Int) < (l.length : Int) by omega), if_pos (show (0 : Int) ≤ (i : Int) by omega), beq_self_eq_true, Bool.not_true, Bool.or_false, Bool.false_eq_true, if_false]
    rw [w64 (by omega) (by omega)]
    exact ih (i + 1) (by omega) (by omega)
theorem sameCols_self (l : List S39) (hl : l.length ≤ 1000000) : Ev (fun k => incipitref11_SameCols.f k l l) true := by
  unfold incipitref11_SameCols.f
  simp only [if_true]
  exact sameCols_from l hl l.length 0 (by omega) (by omega)
theorem cell_name_ev (s : ByteArray) (hs : s.size ≤ 9223372036854775807) : Ev (fun k => cell_Name.f k s) (nameB s) := Ev.of (cell_Name.mono s) (name_some s hs)
theorem cell_may_some (l : List S39) (hsz : ∀ x ∈ l, x.f0.size ≤ 9223372036854775807) : cell_May.f l = some (mayB l) := by unfold cell_May.f; rw [if_pos hsz]
end Go.Proofs.YtpgcepfecmkkaaaDoor.Ref
set_option linter.unusedVariables false
set_option linter.unusedSimpArgs false
namespace Go.Proofs.YtpgcepfecmkkaaaDoor.Ref
open Go.RowKit Go.Proofs.YtpgcepfecmkkaaaDoor Go.Proofs.YtpgcepfecmkkaaaDoorZ.ZA Go.Proofs.YtpgcepfecmkkaaaDoorW.PrintWords
set_option maxRecDepth 100000 in
theorem awake11_ev : Ev (fun k => incipitlaw11_awake.f k) true := Ev.of incipitlaw11_awake.mono (k := 400) (by decide +kernel)
end Go.Proofs.YtpgcepfecmkkaaaDoor.Ref
set_option linter.unusedVariables false
set_option linter.unusedSimpArgs false
namespace Go.Proofs.YtpgcepfecmkkaaaDoor.Pure
open Go.RowKit Go.Proofs.YtpgcepfecmkkaaaDoor Go.Proofs.YtpgcepfecmkkaaaDoor.Ref Go.Proofs.YtpgcepfecmkkaaaDoorZ.ZA Go.Proofs.YtpgcepfecmkkaaaDoorW.PrintWords
theorem CellMay : incipitlaw11_CellMay.Pure := by
  intro s l hs hl hx
  have hsz : ∀ x ∈ l, x.f0.size ≤ 9223372036854775807 := fun x h => (hx x h).1
  refine Ev.rounds (r := true) ?_
  unfold incipitlaw11_CellMay.f
  by_cases h : (l.length : Int) > 100
  · simp only [if_pos h]
    exact Ev.bind awake11_ev (Ev.now _)
  simp only [if_neg h]
  refine bind1 rfl ?_
  simp only [List.length_nil, Nat.zero_add, if_pos (show l.length < 5864062014805 by omega), List.nil_append]
  refine bind1 rfl ?_
  refine Ev.bind (cell_name_ev s (by omega)) ?_
  refine Ev.bind (ref_name s (by omega)) ?_
  simp only [beq_self_eq_true, if_true]
  refine bind1 (cell_may_some l hsz) ?_
  refine Ev.bind (ref_may11 l hsz) ?_
  simp only [beq_self_eq_true, if_true]
  refine Ev.bind (sameCols_self l (by omega)) ?_
  simp only [if_true]
  exact Ev.bind awake11_ev (Ev.now _)
end Go.Proofs.YtpgcepfecmkkaaaDoor.Pure
