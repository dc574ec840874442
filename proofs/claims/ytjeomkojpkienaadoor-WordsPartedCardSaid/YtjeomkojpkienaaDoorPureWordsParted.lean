/-
  WordsParted: the plain law.
-/
import Derived.Test.YtjeomkojpkienaaDoorWordsRef3
import Derived.Test.YtjeomkojpkienaaDoorWordsJoin
import Derived.Test.YtjeomkojpkienaaDoorUtfEnc
set_option linter.unusedVariables false
set_option linter.unusedSimpArgs false
namespace Go.Proofs.YtjeomkojpkienaaDoor.Pure
open Go.RowKit Go.Proofs.YtjeomkojpkienaaDoor Go.Proofs.YtjeomkojpkienaaDoor.Ref Go.Proofs.YtjeomkojpkienaaDoorZ.ZA Go.Proofs.YtjeomkojpkienaaDoorW.PrintWords
theorem and21 (n : Int) : Go.bits .and .i64 n 2097151 = n % 2097152 := by
  have h127 : (BitVec.ofInt 64 2097151).toNat = 2 ^ 21 - 1 := by decide
  have key : (BitVec.ofInt 64 n &&& BitVec.ofInt 64 2097151).toNat = (n % ((2 ^ 64 : Nat) : Int)).toNat % 2 ^ 21 := by
    rw [BitVec.toNat_and, BitVec.toNat_ofInt, h127, Nat.and_two_pow_sub_one_eq_mod]
  show IntKind.i64.wrap ((BitVec.ofInt 64 n &&& BitVec.ofInt 64 2097151).toNat : Nat) = n % 2097152
  rw [key, IntKind.wrap_i64]
  omega
theorem blank_is : tb (⟨#[32]⟩ : ByteArray) = [32] := rfl
theorem rune_gap (c : Int) (hp : pointZ c) (hl : letterB c = false) : IsU false (tb (runesBytes [c])) ∧ (runesBytes [c]).size ≤ 4 := by
  have e : tb (runesBytes [c]) = encL c := by
    rw [tb_runes [c] (fun x hx => by rw [List.mem_singleton.1 hx]; exact hp)]
    simp [Ref.encs]
  have h1 := nxt_enc c hp
  refine ⟨?_, ?_⟩
  · rw [e]
    refine ⟨(h1 []).2.1, c.toNat, ?_, fun m => (h1 m).1⟩
    rw [show ((c.toNat : Nat) : Int) = c by unfold pointZ at hp; omega]
    exact hl
  · rw [← tb_length, e]; exact (h1 []).2.2
theorem gap_some (a : Int) : ∃ g, incipitlaw09_gap.f a = some g ∧ IsU false (tb g) ∧ g.size ≤ 4 := by
  unfold incipitlaw09_gap.f
  rw [and21]
  have hb1 := Int.emod_nonneg a (show (2097152 : Int) ≠ 0 by decide)
  have hb2 := Int.emod_lt_of_pos a (show (0 : Int) < 2097152 by decide)
  generalize a % 2097152 = c at hb1 hb2
  have blank : ∃ g, (some (⟨#[32]⟩ : ByteArray) : Option ByteArray) = some g ∧ IsU false (tb g) ∧ g.size ≤ 4 := ⟨_, rfl, by rw [blank_is]; exact blank_unit, by decide⟩
  have hw : wrap32 c = c := by unfold wrap32; omega
  have hlet : utf_Letter.f c = some (letterB c) := rfl
  by_cases h1 : c > 1114111
  · rw [if_pos h1]; exact blank
  rw [if_neg h1]
  by_cases h2 : c ≥ 55296
  · rw [if_pos h2]
    by_cases h3 : c ≤ 57343
    · rw [if_pos h3]; exact blank
    rw [if_neg h3, hlet, Option.bind_some]
    by_cases h4 : letterB c = true
    · rw [if_pos h4]; exact blank
    · rw [if_neg h4, hw]
      have := rune_gap c (by unfold pointZ; omega) (by simpa using h4)
      exact ⟨_, rfl, this.1, this.2⟩
  · rw [if_neg h2, hlet, Option.bind_some]
    by_cases h4 : letterB c = true
    · rw [if_pos h4]; exact blank
    · rw [if_neg h4, hw]
      have := rune_gap c (by unfold pointZ; omega) (by simpa using h4)
      exact ⟨_, rfl, this.1, this.2⟩
theorem rd_word (l : List S36) (i : Nat) (h : i < l.length) : rd_T36 l (i : Int) = l[i] := by simp [rd_T36, List.getD, h]
/-- A text that is one word. -/
theorem one_word (s : ByteArray) (h : oneB s [] = true) : Us true (tb s) ∧ tb s ≠ [] ∧ smallL (tb s) = tb s ∧ s.size ≤ 24 := by
  unfold oneB at h
  simp only [Bool.and_eq_true, decide_eq_true_eq] at h
  obtain ⟨h1, h2, h3⟩ := h
  unfold wordsB at h1 h2 h3
  by_cases hf : faultB s = (s.size : Int)
  · rw [if_pos hf] at h1 h2 h3
    obtain ⟨h4, h5⟩ := wordsF_ok [] _ 0 (by omega) h1
    rw [wordsF_all [] _ 0 h4 h5] at h2 h3
    rw [faultB_eq] at hf
    have hf' : faultL (tb s) = (tb s).length := by rw [tb_length]; omega
    obtain ⟨L, hL⟩ : ∃ L, (runsL (tb s)).map st = L := ⟨_, rfl⟩
    rw [hL] at h2 h3 h4
    match L, hL, h2, h3, h4 with
    | [], hL, h2, h3, h4 => simp [keepW] at h2
    | w :: [], hL, h2, h3, h4 =>
      have e : inB [] w = false := rfl
      have hk : keepW [] 0 [w] = [⟨w, 0⟩] := by rw [keepW, if_neg (by rw [e]; simp)]; rfl
      rw [hk] at h3
      have hws : w.toList = s.toList := by simpa [rd_T36] using h3
      have hw : w = s := tb_inj ((text_eq w s).1 hws)
      subst hw
      have hr : runsL (tb w) = [tb w] := by
        have := congrArg (List.map tb) hL
        rw [List.map_map] at this
        have hid' : (tb ∘ st) = id := by funext x; exact tb_st x
        rw [hid', List.map_id] at this
        exact this
      have := one_run hf' hr
      exact ⟨this.1, this.2.1, this.2.2, h4 w (by simp)⟩
    | w :: x :: r, hL, h2, h3, h4 =>
      have e : inB [] w = false := rfl
      have e' : inB [] x = false := rfl
      rw [keepW, if_neg (by rw [e]; simp), keepW, if_neg (by rw [e']; simp)] at h2
      simp at h2
  · rw [if_neg hf] at h1; exact absurd h1 (by decide)
theorem keepW_len : ∀ (l : List ByteArray) (i : Nat), (keepW [] i l).length = l.length := by
  intro l
  induction l with
  | nil => intro i; rfl
  | cons w r ih => intro i; have e : inB [] w = false := rfl; rw [keepW, if_neg (by rw [e]; simp), List.length_cons, List.length_cons, ih]
theorem same_loop (ws : List ByteArray) (hn : ws.length ≤ 48) : ∀ (d i : Nat), ws.length - i = d → i ≤ ws.length → Ev (fun k => incipitlaw09_WordsParted.l1 k ws (keepW [] 0 ws) (i : Int)) true := by
  have hlen := keepW_len ws 0
  intro d
  induction d with
  | zero =>
    intro i hd hi
    refine ev1 _ (fun k => by simp only [incipitlaw09_WordsParted.l1]; rfl) ?_
    simp only [if_neg (show ¬ (i : Int) < ((keepW [] 0 ws).length : Int) by omega)]
    exact bind1 rfl (Ev.now _)
  | succ d ih =>
    intro i hd hi
    have hlt : i < ws.length := by omega
    have hlt2 : i < (keepW [] 0 ws).length := by omega
    obtain ⟨w, h1, h2⟩ := keepW_at ws 0 i _ (List.getElem?_eq_getElem hlt2)
    rw [List.getElem?_eq_getElem hlt] at h1
    obtain rfl := Option.some.inj h1
    refine ev1 _ (fun k => by simp only [incipitlaw09_WordsParted.l1]; rfl) ?_
    simp only [if_pos (show (i : Int) < ((keepW [] 0 ws).length : Int) by omega), if_pos (show (0 : Int) ≤ (i : Int) by omega), if_pos (show (i : Int) < (ws.length : Int) by omega), rd_word _ i hlt2, rd_text ws i hlt, h2, if_true, if_pos (show ((0 + i : Nat) : Int) = (i : Int) by omega)]
    rw [w64 (by omega) (by omega)]
    exact ih (i + 1) (by omega) (by omega)
/-- The end: the words of the text are the given ones. -/
theorem parted_end (ws : List ByteArray) (T : ByteArray) (hn : ws.length ≤ 48) (hw : ∀ x ∈ ws, x.size ≤ 24) (hT : T.size ≤ 140737488351232) (h : Parted (ws.map tb) (tb T)) :
    Ev (fun k => (words_Words.f T ([] : List ByteArray)).bind fun bt => (if bt.2 = 0 then (incipitlaw09_WordsParted.j3 k ws bt.1 ((bt.1.length : Int) != (ws.length : Int))) else (incipitlaw09_WordsParted.j3 k ws bt.1 true))) true := by
  obtain ⟨hf, hr⟩ := h.done
  have hB : wordsB T [] = (keepW [] 0 ws, 0) := by
    unfold wordsB
    rw [faultB_eq, hf, tb_length, if_pos rfl, hr, List.map_map]
    have hid' : (st ∘ tb) = id := by funext x; exact st_tb x
    rw [hid', List.map_id]
    exact wordsF_all [] ws 0 hw (by omega)
  refine bind1 (words_some T [] hT) ?_
  rw [hB]
  simp only [if_true, keepW_len, bne_self_eq_false]
  refine ev1 _ (fun k => by simp only [incipitlaw09_WordsParted.j3]; rfl) ?_
  simp only [Bool.false_eq_true, if_false]
  exact same_loop ws hn _ 0 rfl (Nat.zero_le _)
theorem parted_loop (ws : List ByteArray) (gs : List Int) (hn : ws.length ≤ 48) (hg : gs.length ≤ 200) (hsz : ∀ x ∈ ws, x.size ≤ maxLen) : ∀ (d i : Nat) (T : ByteArray), ws.length - i = d → i ≤ ws.length → T.size ≤ 1000 * i → (∀ x ∈ ws.take i, x.size ≤ 24) → Parted ((ws.take i).map tb) (tb T) →
    Ev (fun k => incipitlaw09_WordsParted.l0 k ws gs T (i : Int)) true := by
  intro d
  induction d with
  | zero =>
    intro i T hd hi hT h24 hP
    rw [List.take_of_length_le (by omega)] at hP h24
    refine ev1 _ (fun k => by simp only [incipitlaw09_WordsParted.l0]; rfl) ?_
    simp only [if_neg (show ¬ (i : Int) < (ws.length : Int) by omega)]
    exact parted_end ws T hn h24 (by omega) hP
  | succ d ih =>
    intro i T hd hi hT h24 hP
    have hlt : i < ws.length := by omega
    have hx := hsz ws[i] (List.getElem_mem hlt)
    have hmx : maxLen = 9223372036854775807 := rfl
    refine ev1 _ (fun k => by simp only [incipitlaw09_WordsParted.l0]; rfl) ?_
    simp only [if_pos (show (i : Int) < (ws.length : Int) by omega), if_pos (show (0 : Int) ≤ (i : Int) by omega), rd_text ws i hlt]
    have out : ∀ k0 : Nat, Ev (fun k => incipitlaw09_WordsParted.j2 k ws gs T (i : Int) true) true := fun _ => by
      refine ev1 _ (fun k => by simp only [incipitlaw09_WordsParted.j2]; rfl) ?_
      simp only [if_true]
      exact bind1 rfl (Ev.now _)
    by_cases h1 : (ws[i].size : Int) > 100
    · simp only [if_pos h1]; exact out 0
    simp only [if_neg h1]
    refine bind1 (one_some _ [] (by omega)) ?_
    obtain ⟨b, hb⟩ : ∃ b, oneB ws[i] [] = b := ⟨_, rfl⟩
    rw [hb]
    cases b with
    | false => simp only [Bool.not_false]; exact out 0
    | true =>
      obtain ⟨u1, u2, u3, u4⟩ := one_word ws[i] hb
      have htk : ws.take (i + 1) = ws.take i ++ [ws[i]] := by rw [List.take_add_one, List.getElem?_eq_getElem hlt]; rfl
      have h24' : ∀ x ∈ ws.take (i + 1), x.size ≤ 24 := fun x hx => by
        rw [htk] at hx
        rcases List.mem_append.1 hx with hx | hx
        · exact h24 x hx
        · rw [List.mem_singleton.1 hx]; exact u4
      have hne : (ws.take i).map tb ≠ [] → i ≠ 0 := fun h e => h (by rw [e]; rfl)
      have next : ∀ (g : List UInt8) (T' : ByteArray), Us false g → (i ≠ 0 → g ≠ []) → g.length ≤ 5 → tb T' = tb T ++ g ++ tb ws[i] → Ev (fun k => incipitlaw09_WordsParted.l0 k ws gs T' (wrap64 ((i : Int) + 1))) true := fun g T' hg hg0 hg5 hT' => by
        rw [w64 (by omega) (by omega)]
        refine ih (i + 1) T' (by omega) (by omega) ?_ h24' ?_
        · rw [← tb_length, hT', List.length_append, List.length_append, tb_length, tb_length]; omega
        · rw [htk, List.map_append, hT']
          exact hP.more hg (fun h => hg0 (hne h)) u1 u2 u3
      refine ev1 _ (fun k => by simp only [incipitlaw09_WordsParted.j2]; rfl) ?_
      simp only [Bool.not_true, Bool.false_eq_true, if_false, if_pos (show (0 : Int) ≤ (i : Int) by omega), if_pos (show (i : Int) < (ws.length : Int) by omega), rd_text ws i hlt]
      have hbl : (T ++ (⟨#[32]⟩ : ByteArray)).size = T.size + 1 := by rw [ByteArray.size_append]; rfl
      by_cases h0 : i = 0
      · simp only [if_neg (show ¬ (i : Int) > 0 by omega)]
        by_cases h2 : (i : Int) < (gs.length : Int)
        · simp only [if_pos h2]
          obtain ⟨g, e1, e2, e3⟩ := gap_some (rd gs (i : Int))
          refine bind1 e1 ?_
          have hs1 : (T ++ g).size = T.size + g.size := ByteArray.size_append
          simp only [if_pos (show T.size + g.size ≤ 9223372036854775807 by omega), if_pos (show (T ++ g).size + ws[i].size ≤ 9223372036854775807 by omega)]
          exact next (tb g) _ (Us.one e2) (fun h => absurd h0 h) (by rw [tb_length]; omega) (by rw [tb_append, tb_append])
        · simp only [if_neg h2, if_pos (show T.size + ws[i].size ≤ 9223372036854775807 by omega)]
          exact next [] _ (Us.nil _) (fun h => absurd h0 h) (by simp) (by rw [tb_append, List.append_nil])
      · simp only [if_pos (show (i : Int) > 0 by omega), if_pos (show T.size + 1 ≤ 9223372036854775807 by omega)]
        by_cases h2 : (i : Int) < (gs.length : Int)
        · simp only [if_pos h2]
          obtain ⟨g, e1, e2, e3⟩ := gap_some (rd gs (i : Int))
          refine bind1 e1 ?_
          have hs1 : ((T ++ (⟨#[32]⟩ : ByteArray)) ++ g).size = T.size + 1 + g.size := by rw [ByteArray.size_append, hbl]
          simp only [if_pos (show (T ++ (⟨#[32]⟩ : ByteArray)).size + g.size ≤ 9223372036854775807 by omega), if_pos (show ((T ++ (⟨#[32]⟩ : ByteArray)) ++ g).size + ws[i].size ≤ 9223372036854775807 by omega)]
          exact next ([32] ++ tb g) _ ((Us.one blank_unit).app (Us.one e2)) (fun _ => by simp) (by rw [List.length_append, tb_length]; simp; omega) (by rw [tb_append, tb_append, tb_append, blank_is, List.append_assoc, List.append_assoc, List.append_assoc, List.append_assoc])
        · simp only [if_neg h2, if_pos (show (T ++ (⟨#[32]⟩ : ByteArray)).size + ws[i].size ≤ 9223372036854775807 by omega)]
          exact next [32] _ (Us.one blank_unit) (fun _ => by simp) (by simp) (by rw [tb_append, tb_append, blank_is])
theorem WordsParted : incipitlaw09_WordsParted.Pure := by
  intro ws gs h1 h2 h3 h4 h5
  refine Ev.rounds (r := true) ?_
  unfold incipitlaw09_WordsParted.f
  have out : Ev (fun k => incipitlaw09_WordsParted.j0 k ws gs true) true := by
    refine ev1 _ (fun k => by simp only [incipitlaw09_WordsParted.j0]; rfl) ?_
    simp only [if_true]
    exact bind1 rfl (Ev.now _)
  by_cases c1 : (ws.length : Int) > 48
  · simp only [if_pos c1]; exact out
  simp only [if_neg c1]
  by_cases c2 : (gs.length : Int) > 200
  · simp only [decide_eq_true c2]; exact out
  simp only [decide_eq_false c2]
  refine ev1 _ (fun k => by simp only [incipitlaw09_WordsParted.j0]; rfl) ?_
  simp only [Bool.false_eq_true, if_false]
  exact parted_loop ws gs (by omega) (by omega) h2 ws.length 0 (⟨#[]⟩ : ByteArray) (by omega) (by omega) (by show (0 : Nat) ≤ _; omega) (by simp) Parted.start
end Go.Proofs.YtjeomkojpkienaaDoor.Pure
