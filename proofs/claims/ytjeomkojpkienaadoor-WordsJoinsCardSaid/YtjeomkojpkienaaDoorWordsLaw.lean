/-
  The plain law of words: runs of small texts, of letters alone, of joined texts. Nothing of the program stands here.
-/
import Derived.Test.YtjeomkojpkienaaDoorWordsP
set_option linter.unusedVariables false
set_option linter.unusedSimpArgs false
namespace Go.Proofs.YtjeomkojpkienaaDoor
open Go.RowKit

theorem smallL_app (a b : List UInt8) : smallL (a ++ b) = smallL a ++ smallL b := by unfold smallL; exact List.map_append
theorem smallL_take (a : List UInt8) (k : Nat) : smallL (a.take k) = (smallL a).take k := by unfold smallL; rw [List.map_take]
theorem smallL_nil (acc : List UInt8) : smallL acc = [] ↔ acc = [] := by unfold smallL; exact List.map_eq_nil_iff
theorem smallL_len (a : List UInt8) : (smallL a).length = a.length := by unfold smallL; exact List.length_map ..
/-- A text whose bytes are one letter's. -/
def IsL (u : List UInt8) : Prop := 0 < u.length ∧ ∃ c : Nat, letterB (c : Int) = true ∧ ∀ m, nxt (u ++ m) = (c, u.length)
def Lets (acc : List UInt8) : Prop := ∃ us : List (List UInt8), acc = us.flatten ∧ ∀ u ∈ us, IsL u
theorem Lets.nil : Lets [] := ⟨[], rfl, by simp⟩
theorem Lets.snoc {acc u : List UInt8} (h : Lets acc) (hu : IsL u) : Lets (acc ++ u) := by
  obtain ⟨us, rfl, hs⟩ := h
  refine ⟨us ++ [u], by simp, fun x hx => ?_⟩
  rcases List.mem_append.1 hx with hx | hx
  · exact hs x hx
  · rw [List.mem_singleton.1 hx]; exact hu
theorem isL_take {l : List UInt8} (h : 0 < (nxt l).2) (hl : letterB ((nxt l).1 : Int) = true) : IsL (l.take (nxt l).2) := by
  have hlen : (l.take (nxt l).2).length = (nxt l).2 := by rw [List.length_take]; have := (nxt_le l).1; omega
  refine ⟨by rw [hlen]; exact h, (nxt l).1, hl, fun m => ?_⟩
  rw [nxt_take l m h, hlen]
theorem emit_lets (us : List (List UInt8)) (hs : ∀ u ∈ us, IsL u) : ∀ (k : Nat) (a rest : List UInt8), us.flatten.length + rest.length < k → runsK k a (us.flatten ++ rest) = runsK (k - us.length) (a ++ us.flatten) rest ∧ us.length ≤ us.flatten.length := by
  induction us with
  | nil => intro k a rest hk; simp
  | cons u r ih =>
    intro k a rest hk
    obtain ⟨hu0, c, hc, hn⟩ := hs u (by simp)
    rw [List.flatten_cons, List.length_append] at hk ⊢
    obtain ⟨k, rfl⟩ : ∃ m, k = m + 1 := ⟨k - 1, by omega⟩
    have hnx := hn (r.flatten ++ rest)
    have hadv : adv (u ++ (r.flatten ++ rest)) = u.length := by unfold adv; rw [hnx]; show max u.length 1 = _; omega
    obtain ⟨h1, h2⟩ := ih (fun x hx => hs x (by simp [hx])) k (a ++ u) rest (by omega)
    refine ⟨?_, by rw [List.length_cons]; omega⟩
    rw [List.append_assoc, runsK, if_neg (fun h => by rw [(List.append_eq_nil_iff.1 h).1] at hu0; exact absurd hu0 (by simp)), hadv, hnx, if_pos hc, List.take_left, List.drop_left, h1, List.length_cons, List.append_assoc]
    congr 1
    omega
theorem runs_lets {acc : List UInt8} (h : Lets acc) : runsL acc = emit acc := by
  obtain ⟨us, rfl, hs⟩ := h
  obtain ⟨h1, h2⟩ := emit_lets us hs (us.flatten.length + 1) [] [] (by simp)
  unfold runsL
  rw [List.append_nil, List.nil_append] at h1
  rw [h1]
  obtain ⟨m, hm⟩ : ∃ m, us.flatten.length + 1 - us.length = m + 1 := ⟨us.flatten.length - us.length, by omega⟩
  rw [hm, runsK, if_pos rfl]
theorem fault_lets (us : List (List UInt8)) (hs : ∀ u ∈ us, IsL u) : faultL us.flatten = us.flatten.length := by
  induction us with
  | nil => rfl
  | cons u r ih =>
    obtain ⟨hu0, c, hc, hn⟩ := hs u (by simp)
    rw [List.flatten_cons, faultL_eq, hn, if_pos hu0, List.drop_left, ih (fun x hx => hs x (by simp [hx])), List.length_append]
/-- Each run of a text that is right is of letters. -/
theorem runs_are : ∀ (k : Nat) (acc l : List UInt8), l.length < k → faultL l = l.length → Lets acc → ∀ w ∈ runsK k acc l, ∃ a, a ≠ [] ∧ Lets a ∧ w = smallL a := by
  intro k
  induction k with
  | zero => intro acc l h; omega
  | succ k ih =>
    intro acc l hk hf ha w hw
    have hemit : ∀ w ∈ emit acc, ∃ a, a ≠ [] ∧ Lets a ∧ w = smallL a := by
      intro w hw
      unfold emit at hw
      by_cases h0 : acc = []
      · rw [if_pos h0] at hw; cases hw
      · rw [if_neg h0] at hw; exact ⟨acc, h0, ha, List.mem_singleton.1 hw⟩
    rw [runsK] at hw
    by_cases hl : l = []
    · rw [if_pos hl] at hw; exact hemit w hw
    · rw [if_neg hl] at hw
      have hpos := List.length_pos_iff.2 hl
      have hfe := faultL_eq l
      rw [hf] at hfe
      by_cases hp : 0 < (nxt l).2
      · rw [if_pos hp] at hfe
        have hadv : adv l = (nxt l).2 := by unfold adv; omega
        have hle := (nxt_le l).1
        rw [hadv] at hw
        have hrest : faultL (l.drop (nxt l).2) = (l.drop (nxt l).2).length := by rw [List.length_drop]; omega
        have hlt : (l.drop (nxt l).2).length < k := by rw [List.length_drop]; omega
        by_cases hb : letterB ((nxt l).1 : Int) = true
        · rw [if_pos hb] at hw
          exact ih _ _ hlt hrest (ha.snoc (isL_take hp hb)) w hw
        · rw [if_neg hb] at hw
          rcases List.mem_append.1 hw with hw | hw
          · exact hemit w hw
          · exact ih _ _ hlt hrest Lets.nil w hw
      · rw [if_neg hp] at hfe; omega
def lowN (c : Nat) : Nat := if 65 ≤ c ∧ c ≤ 90 then c + 32 else c
theorem nxt_low (l : List UInt8) : nxt (smallL l) = if (nxt l).2 = 1 then (lowN (nxt l).1, 1) else nxt l := by
  unfold nxt lowN
  have hlen : (smallL l).length = l.length := by rw [smallL, List.length_map]
  rw [hlen, getD_small, getD_small, getD_small, getD_small, lowB_nat, lowB_nat, lowB_nat, lowB_nat]
  have k0 := (l.getD 0 0).toNat_lt
  have k1 := (l.getD 1 0).toNat_lt
  have k2 := (l.getD 2 0).toNat_lt
  have k3 := (l.getD 3 0).toNat_lt
  generalize (l.getD 0 0).toNat = b0 at k0 ⊢
  generalize (l.getD 1 0).toNat = b1 at k1 ⊢
  generalize (l.getD 2 0).toNat = b2 at k2 ⊢
  generalize (l.getD 3 0).toNat = b3 at k3 ⊢
  generalize l.length = n
  have low : ∀ b : Nat, b < 128 ↔ (if 65 ≤ b ∧ b ≤ 90 then b + 32 else b) < 128 := fun b => by split <;> omega
  by_cases c0 : n = 0
  · subst c0; rfl
  by_cases c1 : b0 < 128
  · rw [nx_one _ _ _ _ _ (by omega) ((low b0).1 c1), nx_one _ _ _ _ _ (by omega) c1]; rfl
  have e0 : (if 65 ≤ b0 ∧ b0 ≤ 90 then b0 + 32 else b0) = b0 := by rw [if_neg (by omega)]
  rw [e0]
  have same : ∀ b : Nat, b / 64 = 2 → (if 65 ≤ b ∧ b ≤ 90 then b + 32 else b) = b := fun b h => by rw [if_neg (by omega)]
  have back : ∀ b : Nat, (if 65 ≤ b ∧ b ≤ 90 then b + 32 else b) / 64 = 2 → b / 64 = 2 := fun b h => by split at h <;> omega
  rcases nx_shape n b0 b1 b2 b3 with ⟨z0, c, e⟩ | ⟨z1, z2, z3, zv, e⟩ | ⟨z1, z2, z3, z4, zv, zs, e⟩ | ⟨z1, z2, z3, z4, z5, zv, zw, e⟩ | ⟨e, y1, y2, y3, y4⟩
  · omega
  · rw [e, same b1 z3, nx_two _ _ _ _ _ ⟨z1, z2, z3, zv⟩]; rfl
  · rw [e, same b1 z3, same b2 z4, nx_three _ _ _ _ _ ⟨z1, z2, z3, z4, zv, zs⟩]; rfl
  · rw [e, same b1 z3, same b2 z4, same b3 z5, nx_four _ _ _ _ _ ⟨z1, z2, z3, z4, z5, zv, zw⟩]; rfl
  · rw [e]
    rcases nx_shape n b0 (if 65 ≤ b1 ∧ b1 ≤ 90 then b1 + 32 else b1) (if 65 ≤ b2 ∧ b2 ≤ 90 then b2 + 32 else b2) (if 65 ≤ b3 ∧ b3 ≤ 90 then b3 + 32 else b3) with ⟨z0, c, e⟩ | ⟨z1, z2, z3, zv, e⟩ | ⟨z1, z2, z3, z4, zv, zs, e⟩ | ⟨z1, z2, z3, z4, z5, zv, zw, e⟩ | ⟨e, _⟩
    · omega
    · exfalso; have q1 := back b1 z3; rw [same b1 q1] at zv; exact y2 ⟨z1, z2, q1, zv⟩
    · exfalso; have q1 := back b1 z3; have q2 := back b2 z4; rw [same b1 q1, same b2 q2] at zv zs; exact y3 ⟨z1, z2, q1, q2, zv, zs⟩
    · exfalso; have q1 := back b1 z3; have q2 := back b2 z4; have q3 := back b3 z5; rw [same b1 q1, same b2 q2, same b3 q3] at zv zw; exact y4 ⟨z1, z2, q1, q2, q3, zv, zw⟩
    · rw [e]; rfl
theorem great_letters : ∀ k : Fin 26, letterB (((65 + k.val : Nat)) : Int) = true ∧ letterB (((97 + k.val : Nat)) : Int) = true := by decide
theorem letter_low (c : Nat) : letterB ((lowN c : Nat) : Int) = letterB (c : Int) := by
  unfold lowN
  by_cases h : 65 ≤ c ∧ c ≤ 90
  · rw [if_pos h]
    obtain ⟨h1, h2⟩ := great_letters ⟨c - 65, by omega⟩
    rw [show 65 + (c - 65) = c by omega] at h1
    rw [show 97 + (c - 65) = c + 32 by omega] at h2
    rw [h1, h2]
  · rw [if_neg h]
theorem adv_small (l : List UInt8) : adv (smallL l) = adv l := by unfold adv; rw [nxt_small]
theorem letter_small (l : List UInt8) : letterB ((nxt (smallL l)).1 : Int) = letterB ((nxt l).1 : Int) := by
  rw [nxt_low]
  by_cases h : (nxt l).2 = 1
  · rw [if_pos h]; exact letter_low _
  · rw [if_neg h]
theorem emit_small (acc : List UInt8) : emit (smallL acc) = emit acc := by
  unfold emit
  by_cases h : acc = []
  · rw [if_pos h, if_pos ((smallL_nil acc).2 h)]
  · rw [if_neg h, if_neg (fun e => h ((smallL_nil acc).1 e)), small_small]
theorem runsK_small : ∀ (k : Nat) (acc l : List UInt8), runsK k (smallL acc) (smallL l) = runsK k acc l := by
  intro k
  induction k with
  | zero => intro acc l; rfl
  | succ k ih =>
    intro acc l
    rw [runsK, runsK, emit_small, letter_small, adv_small, ← smallL_take, ← small_drop, ← smallL_app]
    by_cases hl : l = []
    · rw [if_pos hl, if_pos ((smallL_nil l).2 hl)]
    · rw [if_neg hl, if_neg (fun e => hl ((smallL_nil l).1 e)), ih]
      have := ih [] (l.drop (adv l))
      rw [show smallL ([] : List UInt8) = [] from rfl] at this
      rw [this]
theorem runs_small (l : List UInt8) : runsL (smallL l) = runsL l := by
  unfold runsL
  rw [smallL_len]
  exact runsK_small _ [] l
/-- A run is its own one run. -/
theorem run_own {l w : List UInt8} (hf : faultL l = l.length) (hw : w ∈ runsL l) : w ≠ [] ∧ runsL w = [w] ∧ faultL w = w.length ∧ smallL w = w := by
  obtain ⟨a, h0, ha, rfl⟩ := runs_are _ [] l (Nat.lt_succ_self _) hf Lets.nil w hw
  refine ⟨fun h => h0 ((smallL_nil a).1 h), ?_, ?_, small_small a⟩
  · rw [runs_small, runs_lets ha, emit_some a h0]
  · obtain ⟨us, rfl, hs⟩ := ha
    rw [fault_small _ _ (Nat.le_refl _), fault_lets us hs, smallL_len]
end Go.Proofs.YtjeomkojpkienaaDoor
