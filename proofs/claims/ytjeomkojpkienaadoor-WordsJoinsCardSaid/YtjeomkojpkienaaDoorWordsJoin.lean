/-
  The plain law of words: runs of joined texts; units of letters and of others. Nothing of the program stands here.
-/
import Derived.Test.YtjeomkojpkienaaDoorWordsLaw
set_option linter.unusedVariables false
set_option linter.unusedSimpArgs false
namespace Go.Proofs.YtjeomkojpkienaaDoor
open Go.RowKit

def RR (acc l : List UInt8) : List (List UInt8) := runsK (l.length + 1) acc l
theorem RR_nil (acc : List UInt8) : RR acc [] = emit acc := by unfold RR; rw [runsK, if_pos rfl]
theorem RR_eq (acc l : List UInt8) (h : l ≠ []) : RR acc l = if letterB ((nxt l).1 : Int) = true then RR (acc ++ l.take (adv l)) (l.drop (adv l)) else emit acc ++ RR [] (l.drop (adv l)) := by
  have h1 := adv_pos l
  have h2 := adv_le l h
  unfold RR
  rw [runsK, if_neg h, runsK_more l.length ((l.drop (adv l)).length + 1) _ (l.drop (adv l)) (by rw [List.length_drop]; omega) (by omega), runsK_more l.length ((l.drop (adv l)).length + 1) _ (l.drop (adv l)) (by rw [List.length_drop]; omega) (by omega)]
/-- The bytes of one code point, a letter or not. -/
def IsU (b : Bool) (u : List UInt8) : Prop := 0 < u.length ∧ ∃ c : Nat, letterB (c : Int) = b ∧ ∀ m, nxt (u ++ m) = (c, u.length)
theorem isU_of_L {u : List UInt8} (h : IsL u) : IsU true u := h
theorem RR_unit {b : Bool} {u : List UInt8} (h : IsU b u) (acc m : List UInt8) : RR acc (u ++ m) = if b = true then RR (acc ++ u) m else emit acc ++ RR [] m := by
  obtain ⟨h0, c, hc, hn⟩ := h
  have hne : u ++ m ≠ [] := fun e => by rw [(List.append_eq_nil_iff.1 e).1] at h0; exact absurd h0 (by simp)
  have hadv : adv (u ++ m) = u.length := by unfold adv; rw [hn]; show max u.length 1 = _; omega
  rw [RR_eq _ _ hne, hadv, hn, List.take_left, List.drop_left, hc]
theorem unit_take {l : List UInt8} (h : 0 < (nxt l).2) : IsU (letterB ((nxt l).1 : Int)) (l.take (nxt l).2) := by
  have hlen : (l.take (nxt l).2).length = (nxt l).2 := by rw [List.length_take]; have := (nxt_le l).1; omega
  refine ⟨by rw [hlen]; exact h, (nxt l).1, rfl, fun m => ?_⟩
  rw [nxt_take l m h, hlen]
theorem fault_unit {b : Bool} {u : List UInt8} (h : IsU b u) (m : List UInt8) : faultL (u ++ m) = u.length + faultL m := by
  obtain ⟨h0, c, hc, hn⟩ := h
  rw [faultL_eq, hn, if_pos h0, List.drop_left]
/-- Units, one behind the other, all letters or none. -/
def Us (b : Bool) (g : List UInt8) : Prop := ∃ us : List (List UInt8), g = us.flatten ∧ ∀ u ∈ us, IsU b u
theorem Us.nil (b : Bool) : Us b [] := ⟨[], rfl, by simp⟩
theorem Us.one {b : Bool} {u : List UInt8} (h : IsU b u) : Us b u := ⟨[u], by simp, fun x hx => by rw [List.mem_singleton.1 hx]; exact h⟩
theorem Us.app {b : Bool} {x y : List UInt8} (h : Us b x) (k : Us b y) : Us b (x ++ y) := by
  obtain ⟨us, rfl, hs⟩ := h
  obtain ⟨vs, rfl, ht⟩ := k
  exact ⟨us ++ vs, by simp, fun z hz => (List.mem_append.1 hz).elim (hs z) (ht z)⟩
theorem us_of_lets {a : List UInt8} (h : Lets a) : Us true a := h
theorem fault_us {b : Bool} {g : List UInt8} (h : Us b g) (m : List UInt8) : faultL (g ++ m) = g.length + faultL m := by
  obtain ⟨us, rfl, hs⟩ := h
  induction us with
  | nil => simp
  | cons u r ih =>
    rw [List.flatten_cons, List.append_assoc, fault_unit (hs u (by simp)), ih (fun x hx => hs x (by simp [hx])), List.length_append]
    omega
theorem RR_letters {w : List UInt8} (h : Us true w) : ∀ (acc m : List UInt8), RR acc (w ++ m) = RR (acc ++ w) m := by
  obtain ⟨us, rfl, hs⟩ := h
  induction us with
  | nil => intro acc m; simp
  | cons u r ih =>
    intro acc m
    rw [List.flatten_cons, List.append_assoc, RR_unit (hs u (by simp)), if_pos rfl, ih (fun x hx => hs x (by simp [hx])), List.append_assoc]
theorem emit_nil : emit [] = [] := rfl
theorem RR_gaps {g : List UInt8} (h : Us false g) : ∀ (acc m : List UInt8), (acc = [] ∨ g ≠ []) → RR acc (g ++ m) = emit acc ++ RR [] m := by
  obtain ⟨us, rfl, hs⟩ := h
  induction us with
  | nil =>
    intro acc m ha
    rcases ha with rfl | ha
    · rw [emit_nil]; rfl
    · exact absurd rfl ha
  | cons u r ih =>
    intro acc m _
    rw [List.flatten_cons, List.append_assoc, RR_unit (hs u (by simp)), if_neg (by decide), ih (fun x hx => hs x (by simp [hx])) [] m (.inl rfl), emit_nil, List.nil_append]
theorem isL_small {u : List UInt8} (h : IsL u) : IsL (smallL u) := by
  obtain ⟨h0, c, hc, hn⟩ := h
  have h1 := hn []
  rw [List.append_nil] at h1
  have h2 : (nxt (smallL u)).2 = u.length := by rw [nxt_small, h1]
  have h3 := letter_small u
  rw [h1] at h3
  have := isL_take (l := smallL u) (by rw [h2]; exact h0) (by rw [h3]; exact hc)
  rwa [h2, List.take_of_length_le (by rw [smallL_len]; omega)] at this
theorem lets_small {a : List UInt8} (h : Lets a) : Lets (smallL a) := by
  obtain ⟨us, rfl, hs⟩ := h
  refine ⟨us.map smallL, ?_, fun x hx => ?_⟩
  · clear hs
    induction us with
    | nil => rfl
    | cons u r ih => rw [List.flatten_cons, smallL_app, ih, List.map_cons, List.flatten_cons]
  · obtain ⟨u, hu, rfl⟩ := List.mem_map.1 hx
    exact isL_small (hs u hu)
/-- A text that is one run, itself, is of small letters. -/
theorem one_run {w : List UInt8} (hf : faultL w = w.length) (h : runsL w = [w]) : Us true w ∧ w ≠ [] ∧ smallL w = w := by
  obtain ⟨a, h0, ha, rfl⟩ := runs_are _ [] w (Nat.lt_succ_self _) hf Lets.nil w (by show w ∈ runsL w; rw [h]; simp)
  exact ⟨us_of_lets (lets_small ha), fun e => h0 ((smallL_nil a).1 e), small_small a⟩
/-- Parted texts: how far it is, what runs there are. -/
def Parted (done : List (List UInt8)) (T : List UInt8) : Prop := (∀ m, faultL (T ++ m) = T.length + faultL m) ∧ ∃ (A : List (List UInt8)) (acc : List UInt8), (done = [] → acc = []) ∧ A ++ emit acc = done ∧ ∀ m, RR [] (T ++ m) = A ++ RR acc m
theorem Parted.start : Parted [] [] := ⟨fun m => by simp, [], [], fun _ => rfl, rfl, fun m => by simp⟩
theorem Parted.more {done : List (List UInt8)} {T g w : List UInt8} (h : Parted done T) (hg : Us false g) (hs : done ≠ [] → g ≠ []) (hw : Us true w) (h0 : w ≠ []) (hsm : smallL w = w) : Parted (done ++ [w]) (T ++ g ++ w) := by
  obtain ⟨hf, A, acc, ha, hA, hR⟩ := h
  refine ⟨fun m => ?_, done, w, fun e => by simp at e, by rw [emit_some w h0, hsm], fun m => ?_⟩
  · rw [List.append_assoc, List.append_assoc, hf, fault_us hg, fault_us hw, List.length_append, List.length_append]; omega
  · rw [List.append_assoc, List.append_assoc, hR, RR_gaps hg acc (w ++ m) ?_, RR_letters hw, List.nil_append, ← List.append_assoc, hA]
    by_cases hd : done = []
    · exact .inl (ha hd)
    · exact .inr (hs hd)
theorem Parted.done {done : List (List UInt8)} {T : List UInt8} (h : Parted done T) : faultL T = T.length ∧ runsL T = done := by
  obtain ⟨hf, A, acc, ha, hA, hR⟩ := h
  have h1 := hf []
  have h2 := hR []
  rw [List.append_nil] at h1 h2
  rw [RR_nil, hA] at h2
  exact ⟨by rw [h1, faultL_nil]; omega, h2⟩
theorem blank_unit : IsU false [32] := ⟨by decide, 32, by decide, fun m => by unfold nxt; simp only [List.cons_append, List.nil_append, List.length_cons, List.getD_cons_zero]; exact nx_one _ _ _ _ _ (by omega) (by decide)⟩
/-- A text that is right, a blank, another text. -/
theorem RR_join : ∀ (n : Nat) (l acc m : List UInt8), l.length ≤ n → faultL l = l.length → RR acc (l ++ ([32] ++ m)) = RR acc l ++ RR [] m := by
  intro n
  induction n with
  | zero =>
    intro l acc m h hf
    obtain rfl : l = [] := List.eq_nil_of_length_eq_zero (by omega)
    rw [List.nil_append, RR_unit blank_unit, if_neg (by decide), RR_nil]
  | succ n ih =>
    intro l acc m h hf
    by_cases hl : l = []
    · subst hl
      rw [List.nil_append, RR_unit blank_unit, if_neg (by decide), RR_nil]
    · have hpos := List.length_pos_iff.2 hl
      have hfe := faultL_eq l
      rw [hf] at hfe
      have hp : 0 < (nxt l).2 := by
        by_cases hp : 0 < (nxt l).2
        · exact hp
        · rw [if_neg hp] at hfe; omega
      rw [if_pos hp] at hfe
      have hu := unit_take hp
      obtain ⟨u, hu'⟩ : ∃ u, l.take (nxt l).2 = u := ⟨_, rfl⟩
      obtain ⟨r, hr⟩ : ∃ r, l.drop (nxt l).2 = r := ⟨_, rfl⟩
      obtain ⟨b, hb⟩ : ∃ b, letterB ((nxt l).1 : Int) = b := ⟨_, rfl⟩
      have hle := (nxt_le l).1
      have hrl : r.length = l.length - (nxt l).2 := by rw [← hr, List.length_drop]
      have hsp : l = u ++ r := by rw [← hu', ← hr, List.take_append_drop]
      rw [hu', hb] at hu
      rw [hr] at hfe
      obtain ⟨k, hk⟩ : ∃ k, (nxt l).2 = k := ⟨_, rfl⟩
      rw [hk] at hfe hp hle hrl
      clear hu' hr hb hk
      rw [hsp, List.append_assoc, RR_unit hu, RR_unit hu, ih r _ m (by omega) (by omega), ih r _ m (by omega) (by omega)]
      cases b with
      | true => simp
      | false => simp
theorem runs_join (a b : List UInt8) (h : faultL a = a.length) : runsL (a ++ ([32] ++ b)) = runsL a ++ runsL b := RR_join _ a [] b (Nat.le_refl _) h
theorem fault_right (a m : List UInt8) (h : faultL a = a.length) : faultL (a ++ m) = a.length + faultL m := by
  have := fault_join _ a m (Nat.le_refl _)
  rwa [h, List.take_length] at this
theorem cont_bytes (l : List UInt8) (j : Nat) (h0 : 0 < j) (h : j < (nxt l).2) : (l.getD j 0).toNat / 64 = 2 := by
  unfold nxt at h
  have hj : j = 1 ∨ j = 2 ∨ j = 3 := by
    have := (nxt_le l).2
    unfold nxt at this
    omega
  generalize h0' : (l.getD 0 0).toNat = b0 at h
  generalize h1' : (l.getD 1 0).toNat = b1 at h
  generalize h2' : (l.getD 2 0).toNat = b2 at h
  generalize h3' : (l.getD 3 0).toNat = b3 at h
  rcases nx_shape l.length b0 b1 b2 b3 with ⟨c0, c, e⟩ | ⟨c1, c2, c3, cv, e⟩ | ⟨c1, c2, c3, c4, cv, cs, e⟩ | ⟨c1, c2, c3, c4, c5, cv, cw, e⟩ | ⟨e, _⟩
  all_goals (rw [e] at h; simp only at h)
  · omega
  · obtain rfl : j = 1 := by omega
    rw [h1']; exact c3
  · rcases hj with rfl | rfl | rfl
    · rw [h1']; exact c3
    · rw [h2']; exact c4
    · omega
  · rcases hj with rfl | rfl | rfl
    · rw [h1']; exact c3
    · rw [h2']; exact c4
    · rw [h3']; exact c5
  · omega
/-- Where nothing stands at the front, nothing does with a blank behind. -/
theorem nxt_blank (l m : List UInt8) (hl : l ≠ []) (h : (nxt l).2 = 0) : (nxt (l ++ ([32] ++ m))).2 = 0 := by
  rcases Nat.eq_zero_or_pos (nxt (l ++ ([32] ++ m))).2 with h0 | hp
  · exact h0
  exfalso
  by_cases hn : (nxt (l ++ ([32] ++ m))).2 ≤ l.length
  · have ht := nxt_take (l ++ ([32] ++ m)) (l.drop (nxt (l ++ ([32] ++ m))).2) hp
    rw [List.take_append_of_le_length hn, List.take_append_drop] at ht
    rw [ht] at h
    omega
  · have hpos := List.length_pos_iff.2 hl
    have := cont_bytes (l ++ ([32] ++ m)) l.length hpos (by omega)
    rw [List.getD_eq_getElem?_getD, List.getElem?_append_right (Nat.le_refl _), Nat.sub_self] at this
    simp at this
theorem fault_blank : ∀ (n : Nat) (l m : List UInt8), l.length ≤ n → faultL l ≠ l.length → faultL (l ++ ([32] ++ m)) = faultL l := by
  intro n
  induction n with
  | zero => intro l m h hf; rw [List.eq_nil_of_length_eq_zero (by omega : l.length = 0)] at hf; exact absurd rfl hf
  | succ n ih =>
    intro l m h hf
    have hl : l ≠ [] := fun e => hf (by rw [e]; rfl)
    by_cases hp : 0 < (nxt l).2
    · have hu := unit_take hp
      obtain ⟨u, hu'⟩ : ∃ u, l.take (nxt l).2 = u := ⟨_, rfl⟩
      obtain ⟨r, hr⟩ : ∃ r, l.drop (nxt l).2 = r := ⟨_, rfl⟩
      have hle := (nxt_le l).1
      have hul : u.length = (nxt l).2 := by rw [← hu', List.length_take]; omega
      have hrl : r.length = l.length - (nxt l).2 := by rw [← hr, List.length_drop]
      have hsp : l = u ++ r := by rw [← hu', ← hr, List.take_append_drop]
      rw [hu'] at hu
      obtain ⟨k, hk⟩ : ∃ k, (nxt l).2 = k := ⟨_, rfl⟩
      rw [hk] at hp hle hul hrl
      clear hu' hr
      rw [hsp, List.append_assoc, fault_unit hu, fault_unit hu, ih r m (by omega) (fun e => hf (by rw [hsp, fault_unit hu, e, List.length_append]))]
    · rw [faultL_eq, if_neg (by rw [nxt_blank l m hl (by omega)]; omega), faultL_eq l, if_neg hp]
theorem fault_joined (a b : List UInt8) : faultL (a ++ ([32] ++ b)) = (a ++ ([32] ++ b)).length ↔ faultL a = a.length ∧ faultL b = b.length := by
  by_cases ha : faultL a = a.length
  · rw [fault_right a _ ha, fault_unit blank_unit, List.length_append, List.length_append]
    constructor
    · intro h; exact ⟨ha, by omega⟩
    · intro h; omega
  · rw [fault_blank _ a b (Nat.le_refl _) ha]
    constructor
    · intro h
      have := faultL_le _ a (Nat.le_refl _)
      rw [h, List.length_append, List.length_append] at this
      simp only [List.length_cons, List.length_nil] at this
      omega
    · intro h; exact absurd h.1 ha
end Go.Proofs.YtjeomkojpkienaaDoor
