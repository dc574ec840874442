/-
  The plain law of words: the longest runs of letters of a text, small; the words. Nothing of the program stands here.
-/
import Derived.Test.YtjeomkojpkienaaDoorUtf
set_option linter.unusedVariables false
set_option linter.unusedSimpArgs false
namespace Go.Proofs.YtjeomkojpkienaaDoor
open Go.RowKit

/-- A run, small, where there is one. -/
def emit (acc : List UInt8) : List (List UInt8) := if acc = [] then [] else [smallL acc]
/-- How far to go on: over what stands at the front; over one byte, if nothing does. -/
def adv (l : List UInt8) : Nat := max (nxt l).2 1
/-- The runs: acc is the run that is under way. -/
def runsK : Nat → List UInt8 → List UInt8 → List (List UInt8)
  | 0, _, _ => []
  | k + 1, acc, l => if l = [] then emit acc else if letterB ((nxt l).1 : Int) = true then runsK k (acc ++ l.take (adv l)) (l.drop (adv l)) else emit acc ++ runsK k [] (l.drop (adv l))
def runsL (l : List UInt8) : List (List UInt8) := runsK (l.length + 1) [] l
theorem adv_pos (l : List UInt8) : 1 ≤ adv l := by unfold adv; omega
theorem adv_le (l : List UInt8) (h : l ≠ []) : adv l ≤ l.length := by
  have := (nxt_le l).1
  have := List.length_pos_iff.2 h
  unfold adv
  omega
theorem runsK_more : ∀ (k j : Nat) (acc l : List UInt8), l.length < k → l.length < j → runsK k acc l = runsK j acc l := by
  intro k
  induction k with
  | zero => intro j acc l h; omega
  | succ k ih =>
    intro j acc l hk hj
    obtain ⟨j, rfl⟩ : ∃ m, j = m + 1 := ⟨j - 1, by omega⟩
    rw [runsK, runsK]
    by_cases hl : l = []
    · rw [if_pos hl, if_pos hl]
    · rw [if_neg hl, if_neg hl]
      have h1 := adv_pos l
      have h2 := adv_le l hl
      rw [ih j _ (l.drop (adv l)) (by rw [List.length_drop]; omega) (by rw [List.length_drop]; omega), ih j _ (l.drop (adv l)) (by rw [List.length_drop]; omega) (by rw [List.length_drop]; omega)]
theorem take_on (T : List UInt8) (f a d : Nat) (h : f ≤ a) : (T.drop f).take (a + d - f) = (T.drop f).take (a - f) ++ (T.drop a).take d := by
  rw [show a + d - f = (a - f) + d by omega, List.take_add, List.drop_drop, show f + (a - f) = a by omega]
theorem runs_yes (T : List UInt8) (f a k : Nat) (h : f ≤ a) (hne : T.drop a ≠ []) (hl : letterB ((nxt (T.drop a)).1 : Int) = true) :
    runsK (k + 1) ((T.drop f).take (a - f)) (T.drop a) = runsK k ((T.drop f).take (a + adv (T.drop a) - f)) (T.drop (a + adv (T.drop a))) := by
  rw [runsK, if_neg hne, if_pos hl, take_on T f a _ h, List.drop_drop]
theorem runs_no (T : List UInt8) (f a k : Nat) (hne : T.drop a ≠ []) (hl : letterB ((nxt (T.drop a)).1 : Int) = false) :
    runsK (k + 1) ((T.drop f).take (a - f)) (T.drop a) = emit ((T.drop f).take (a - f)) ++ runsK k ((T.drop (a + adv (T.drop a))).take (a + adv (T.drop a) - (a + adv (T.drop a)))) (T.drop (a + adv (T.drop a))) := by
  rw [runsK, if_neg hne, if_neg (by rw [hl]; simp), List.drop_drop, Nat.sub_self, List.take_zero]
theorem runs_end (T : List UInt8) (f k : Nat) (a : Nat) (ha : T.length ≤ a) : runsK (k + 1) ((T.drop f).take (a - f)) (T.drop a) = emit (T.drop f) := by
  rw [List.drop_of_length_le ha, runsK, if_pos rfl, List.take_of_length_le (by rw [List.length_drop]; omega)]
theorem emit_some (acc : List UInt8) (h : acc ≠ []) : emit acc = [smallL acc] := by unfold emit; rw [if_neg h]
/-- The words of runs from place i on; the error. -/
def wordsGo (stops : List (List UInt8)) : Nat → List (List UInt8) → List (List UInt8 × Nat) × Int
  | _, [] => ([], 0)
  | i, w :: r => if 24 < w.length then ([], 3) else if i = 48 then ([], 7) else
      let z := wordsGo stops (i + 1) r
      if z.2 = 0 then (if stops.contains w then z.1 else (w, i) :: z.1, 0) else ([], z.2)
end Go.Proofs.YtjeomkojpkienaaDoor
