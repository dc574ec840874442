/-
  The plain law of texts: which code point stands at the front of bytes, how far bytes are right, small bytes. Nothing of the program stands here.
-/
import Derived.Test.YtpgcepfecmkkaaaDoorC
import Derived.Lib.MapLaws
import Derived.Shelf.Unicode.DecodeSlow
set_option linter.unusedVariables false
set_option linter.unusedSimpArgs false
namespace Go.Proofs.YtpgcepfecmkkaaaDoor
open Go.RowKit

def lowB (b : UInt8) : UInt8 := if 65 ≤ b.toNat ∧ b.toNat ≤ 90 then b + 32 else b
def smallL (xs : List UInt8) : List UInt8 := xs.map lowB
def smallT (s : ByteArray) : ByteArray := st (smallL (tb s))
theorem lowB_nat (b : UInt8) : (lowB b).toNat = if 65 ≤ b.toNat ∧ b.toNat ≤ 90 then b.toNat + 32 else b.toNat := by
  unfold lowB
  split
  · rw [UInt8.toNat_add]; simp; omega
  · rfl
/-- The code point that n bytes (the first four: b0 ..) begin with, and its bytes; (0, 0): none. -/
def nx (n b0 b1 b2 b3 : Nat) : Nat × Nat :=
  if n = 0 then (0, 0)
  else if b0 < 128 then (b0, 1)
  else if b0 / 32 = 6 ∧ 1 < n ∧ b1 / 64 = 2 ∧ 128 ≤ b0 % 32 * 64 + b1 % 64 then (b0 % 32 * 64 + b1 % 64, 2)
  else if b0 / 16 = 14 ∧ 2 < n ∧ b1 / 64 = 2 ∧ b2 / 64 = 2 ∧ 2048 ≤ b0 % 16 * 4096 + b1 % 64 * 64 + b2 % 64 ∧ (b0 % 16 * 4096 + b1 % 64 * 64 + b2 % 64 < 55296 ∨ 57344 ≤ b0 % 16 * 4096 + b1 % 64 * 64 + b2 % 64) then (b0 % 16 * 4096 + b1 % 64 * 64 + b2 % 64, 3)
  else if b0 / 8 = 30 ∧ 3 < n ∧ b1 / 64 = 2 ∧ b2 / 64 = 2 ∧ b3 / 64 = 2 ∧ 65536 ≤ b0 % 8 * 262144 + b1 % 64 * 4096 + b2 % 64 * 64 + b3 % 64 ∧ b0 % 8 * 262144 + b1 % 64 * 4096 + b2 % 64 * 64 + b3 % 64 ≤ 1114111 then (b0 % 8 * 262144 + b1 % 64 * 4096 + b2 % 64 * 64 + b3 % 64, 4)
  else (0, 0)
def nxt (l : List UInt8) : Nat × Nat := nx l.length (l.getD 0 0).toNat (l.getD 1 0).toNat (l.getD 2 0).toNat (l.getD 3 0).toNat
theorem nxt_nil : nxt [] = (0, 0) := rfl
theorem nxt_decode (l : List UInt8) (h : l ≠ []) : nxt l = if (Lib.decodeL l).1 = 65533 ∧ (Lib.decodeL l).2 = 1 then (0, 0) else Lib.decodeL l := by
  have hl : 0 < l.length := List.length_pos_iff.2 h
  rw [Lib.decodeL_N]
  unfold nxt
  have k0 := (l.getD 0 0).toNat_lt
  generalize (l.getD 0 0).toNat = b0 at k0 ⊢
  generalize (l.getD 1 0).toNat = b1
  generalize (l.getD 2 0).toNat = b2
  generalize (l.getD 3 0).toNat = b3
  unfold nx
  rw [if_neg (by omega)]
  rcases Lib.decodeN_shape l.length b0 b1 b2 b3 with ⟨c, e⟩ | ⟨c1, c2, c3, cv, e⟩ | ⟨c1, c2, c3, c4, cv, cs, e⟩ | ⟨c1, c2, c3, c4, c5, cv, cw, e⟩ | e
  · rw [e, if_pos c, if_neg (by simp only; omega)]
  · rw [e, if_neg (by omega), if_pos ⟨c1, c2, c3, cv⟩, if_neg (by simp only; omega)]
  · rw [e, if_neg (by omega), if_neg (by omega), if_pos ⟨c1, c2, c3, c4, cv, cs⟩, if_neg (by simp only; omega)]
  · rw [e, if_neg (by omega), if_neg (by omega), if_neg (by omega), if_pos ⟨c1, c2, c3, c4, c5, cv, cw⟩, if_neg (by simp only; omega)]
  · have e' := e
    have h2 : ((65533 : Nat), (1 : Nat)).1 = 65533 ∧ ((65533 : Nat), (1 : Nat)).2 = 1 := ⟨rfl, rfl⟩
    rw [e', if_pos h2]
    unfold Lib.decodeN at e
    repeat' (split at e)
    all_goals first
      | (exfalso; have e1 := congrArg Prod.snd e; simp only at e1; omega)
      | (exfalso; have e1 := congrArg Prod.fst e; simp only at e1; omega)
      | skip
    all_goals
      rw [if_neg (by omega), if_neg (by omega), if_neg (by omega), if_neg (by omega)]
theorem go_decode (s : ByteArray) (i : Nat) (h : i < s.size) : Lib.decodeGo (s.extract i s.size) = Lib.decodeL ((tb s).drop i) := by
  have e : s.extract i s.size = ⟨((tb s).drop i).toArray⟩ := by
    apply ByteArray.ext
    apply Array.ext'
    simp [tb, List.take_of_length_le]
  have hz : ¬ (s.extract i s.size).size = 0 := by simp; omega
  unfold Lib.decodeGo
  rw [if_neg hz, e]
  rfl
theorem decodeL_bound (l : List UInt8) : (Lib.decodeL l).1 ≤ 1114111 ∧ 1 ≤ (Lib.decodeL l).2 ∧ (Lib.decodeL l).2 ≤ 4 := by
  rw [Lib.decodeL_N]
  have hb := (l.getD 0 0).toNat_lt
  generalize (l.getD 0 0).toNat = b0 at hb
  generalize (l.getD 1 0).toNat = b1
  generalize (l.getD 2 0).toNat = b2
  generalize (l.getD 3 0).toNat = b3
  unfold Lib.decodeN
  repeat' split
  all_goals (simp only; omega)
theorem nxt_le (l : List UInt8) : (nxt l).2 ≤ l.length ∧ (nxt l).2 ≤ 4 := by
  unfold nxt
  generalize (l.getD 0 0).toNat = b0
  generalize (l.getD 1 0).toNat = b1
  generalize (l.getD 2 0).toNat = b2
  generalize (l.getD 3 0).toNat = b3
  unfold nx
  repeat' split
  all_goals (simp only; omega)
/-- The code point at a byte of a text, and its bytes; (0, 0): none. -/
def nextB (s : ByteArray) (i : Int) : Int × Int := if 0 ≤ i then (((nxt ((tb s).drop i.toNat)).1 : Int), ((nxt ((tb s).drop i.toNat)).2 : Int)) else (0, 0)
theorem nextB_nat (s : ByteArray) (i : Nat) : nextB s (i : Int) = (((nxt ((tb s).drop i)).1 : Int), ((nxt ((tb s).drop i)).2 : Int)) := by unfold nextB; rw [if_pos (by omega)]; rfl
theorem nextB_out (s : ByteArray) (i : Nat) (h : s.size ≤ i) : nextB s (i : Int) = (0, 0) := by
  rw [nextB_nat, List.drop_of_length_le (by rw [tb_length]; exact h), nxt_nil]; rfl
theorem nextB_neg (s : ByteArray) (i : Int) (h : i < 0) : nextB s i = (0, 0) := by unfold nextB; rw [if_neg (by omega)]
theorem nextB_le (s : ByteArray) (i : Nat) (h : i < s.size) : (nextB s (i : Int)).2 = 0 ∨ (1 ≤ (nextB s (i : Int)).2 ∧ (i : Int) + (nextB s (i : Int)).2 ≤ s.size) := by
  rw [nextB_nat]
  have := (nxt_le ((tb s).drop i)).1
  rw [List.length_drop, tb_length] at this
  simp only
  omega
theorem nextB_nn (s : ByteArray) (i : Nat) : 0 ≤ (nextB s (i : Int)).2 ∧ (nextB s (i : Int)).2 ≤ 4 := by
  rw [nextB_nat]
  have := (nxt_le ((tb s).drop i)).2
  simp only
  omega
/-- How far a text is right, from a byte on. -/
def faultFrom (s : ByteArray) : Nat → Nat → Nat
  | 0, i => i
  | k + 1, i => if 0 < (nextB s (i : Int)).2 then faultFrom s k (i + (nextB s (i : Int)).2.toNat) else i
def faultB (s : ByteArray) : Int := (faultFrom s (s.size + 1) 0 : Int)
/-- How many bytes are right, by so many code points at most. -/
def faultK : Nat → List UInt8 → Nat
  | 0, _ => 0
  | k + 1, l => if 0 < (nxt l).2 then (nxt l).2 + faultK k (l.drop (nxt l).2) else 0
def faultL (l : List UInt8) : Nat := faultK l.length l
theorem faultK_more : ∀ (k j : Nat) (l : List UInt8), l.length ≤ k → l.length ≤ j → faultK k l = faultK j l := by
  intro k
  induction k with
  | zero =>
    intro j l hk hj
    obtain rfl : l = [] := List.eq_nil_of_length_eq_zero (by omega)
    cases j with
    | zero => rfl
    | succ j => rw [faultK, faultK, nxt_nil]; rfl
  | succ k ih =>
    intro j l hk hj
    cases j with
    | zero =>
      obtain rfl : l = [] := List.eq_nil_of_length_eq_zero (by omega)
      rw [faultK, faultK, nxt_nil]; rfl
    | succ j =>
      rw [faultK, faultK]
      split
      · have := (nxt_le l).1
        rw [ih j (l.drop (nxt l).2) (by rw [List.length_drop]; omega) (by rw [List.length_drop]; omega)]
      · rfl
theorem faultL_eq (l : List UInt8) : faultL l = if 0 < (nxt l).2 then (nxt l).2 + faultL (l.drop (nxt l).2) else 0 := by
  unfold faultL
  cases hl : l.length with
  | zero =>
    obtain rfl : l = [] := List.eq_nil_of_length_eq_zero hl
    rw [faultK, nxt_nil]; rfl
  | succ k =>
    rw [faultK]
    split
    · have := (nxt_le l).1
      rw [faultK_more k (l.drop (nxt l).2).length (l.drop (nxt l).2) (by rw [List.length_drop]; omega) (Nat.le_refl _)]
    · rfl
theorem faultL_nil : faultL [] = 0 := rfl
theorem faultL_le : ∀ (n : Nat) (l : List UInt8), l.length ≤ n → faultL l ≤ l.length := by
  intro n
  induction n with
  | zero => intro l h; rw [List.eq_nil_of_length_eq_zero (by omega : l.length = 0)]; exact Nat.le_refl _
  | succ n ih =>
    intro l h
    rw [faultL_eq]
    split
    · have h1 := (nxt_le l).1
      have h2 := ih (l.drop (nxt l).2) (by rw [List.length_drop]; omega)
      rw [List.length_drop] at h2
      omega
    · omega
theorem faultFrom_eq (s : ByteArray) : ∀ (k i : Nat), i ≤ s.size → s.size < i + k → faultFrom s k i = i + faultL ((tb s).drop i) := by
  intro k
  induction k with
  | zero => intro i h1 h2; omega
  | succ k ih =>
    intro i h1 h2
    rw [faultFrom, faultL_eq, nextB_nat]
    have h3 := (nxt_le ((tb s).drop i)).1
    rw [List.length_drop, tb_length] at h3
    simp only
    by_cases hp : 0 < (nxt ((tb s).drop i)).2
    · rw [if_pos (by omega), if_pos hp, Int.toNat_natCast, ih _ (by omega) (by omega), List.drop_drop]
      omega
    · rw [if_neg (by omega), if_neg hp]
      omega
theorem faultB_eq (s : ByteArray) : faultB s = (faultL (tb s) : Int) := by
  unfold faultB
  rw [faultFrom_eq s _ 0 (Nat.zero_le _) (by omega), List.drop_zero, Nat.zero_add]

/-! ### what is cut, and joined -/
theorem shape4 (l : List UInt8) (n : Nat) (h : n ≤ l.length) (hn : n ≤ 4) :
    (n = 0) ∨ (∃ a r, n = 1 ∧ l = a :: r) ∨ (∃ a b r, n = 2 ∧ l = a :: b :: r) ∨ (∃ a b c r, n = 3 ∧ l = a :: b :: c :: r) ∨ (∃ a b c d r, n = 4 ∧ l = a :: b :: c :: d :: r) := by
  match n, l, h, hn with
  | 0, _, _, _ => exact .inl rfl
  | 1, a :: r, _, _ => exact .inr (.inl ⟨a, r, rfl, rfl⟩)
  | 2, a :: b :: r, _, _ => exact .inr (.inr (.inl ⟨a, b, r, rfl, rfl⟩))
  | 3, a :: b :: c :: r, _, _ => exact .inr (.inr (.inr (.inl ⟨a, b, c, r, rfl, rfl⟩)))
  | 4, a :: b :: c :: d :: r, _, _ => exact .inr (.inr (.inr (.inr ⟨a, b, c, d, r, rfl, rfl⟩)))
theorem nx_shape (n b0 b1 b2 b3 : Nat) :
    (0 < n ∧ b0 < 128 ∧ nx n b0 b1 b2 b3 = (b0, 1)) ∨
    (b0 / 32 = 6 ∧ 1 < n ∧ b1 / 64 = 2 ∧ 128 ≤ b0 % 32 * 64 + b1 % 64 ∧ nx n b0 b1 b2 b3 = (b0 % 32 * 64 + b1 % 64, 2)) ∨
    (b0 / 16 = 14 ∧ 2 < n ∧ b1 / 64 = 2 ∧ b2 / 64 = 2 ∧ 2048 ≤ b0 % 16 * 4096 + b1 % 64 * 64 + b2 % 64 ∧ (b0 % 16 * 4096 + b1 % 64 * 64 + b2 % 64 < 55296 ∨ 57344 ≤ b0 % 16 * 4096 + b1 % 64 * 64 + b2 % 64) ∧
      nx n b0 b1 b2 b3 = (b0 % 16 * 4096 + b1 % 64 * 64 + b2 % 64, 3)) ∨
    (b0 / 8 = 30 ∧ 3 < n ∧ b1 / 64 = 2 ∧ b2 / 64 = 2 ∧ b3 / 64 = 2 ∧ 65536 ≤ b0 % 8 * 262144 + b1 % 64 * 4096 + b2 % 64 * 64 + b3 % 64 ∧ b0 % 8 * 262144 + b1 % 64 * 4096 + b2 % 64 * 64 + b3 % 64 ≤ 1114111 ∧
      nx n b0 b1 b2 b3 = (b0 % 8 * 262144 + b1 % 64 * 4096 + b2 % 64 * 64 + b3 % 64, 4)) ∨
    (nx n b0 b1 b2 b3 = (0, 0) ∧ (n = 0 ∨ ¬ b0 < 128) ∧ ¬ (b0 / 32 = 6 ∧ 1 < n ∧ b1 / 64 = 2 ∧ 128 ≤ b0 % 32 * 64 + b1 % 64) ∧
      ¬ (b0 / 16 = 14 ∧ 2 < n ∧ b1 / 64 = 2 ∧ b2 / 64 = 2 ∧ 2048 ≤ b0 % 16 * 4096 + b1 % 64 * 64 + b2 % 64 ∧ (b0 % 16 * 4096 + b1 % 64 * 64 + b2 % 64 < 55296 ∨ 57344 ≤ b0 % 16 * 4096 + b1 % 64 * 64 + b2 % 64)) ∧
      ¬ (b0 / 8 = 30 ∧ 3 < n ∧ b1 / 64 = 2 ∧ b2 / 64 = 2 ∧ b3 / 64 = 2 ∧ 65536 ≤ b0 % 8 * 262144 + b1 % 64 * 4096 + b2 % 64 * 64 + b3 % 64 ∧ b0 % 8 * 262144 + b1 % 64 * 4096 + b2 % 64 * 64 + b3 % 64 ≤ 1114111)) := by
  unfold nx
  by_cases c0 : n = 0
  · rw [if_pos c0]; exact .inr (.inr (.inr (.inr ⟨rfl, .inl c0, by omega, by omega, by omega⟩)))
  rw [if_neg c0]
  by_cases c1 : b0 < 128
  · rw [if_pos c1]; exact .inl ⟨by omega, c1, rfl⟩
  rw [if_neg c1]
  by_cases c2 : b0 / 32 = 6 ∧ 1 < n ∧ b1 / 64 = 2 ∧ 128 ≤ b0 % 32 * 64 + b1 % 64
  · rw [if_pos c2]; exact .inr (.inl ⟨c2.1, c2.2.1, c2.2.2.1, c2.2.2.2, rfl⟩)
  rw [if_neg c2]
  by_cases c3 : b0 / 16 = 14 ∧ 2 < n ∧ b1 / 64 = 2 ∧ b2 / 64 = 2 ∧ 2048 ≤ b0 % 16 * 4096 + b1 % 64 * 64 + b2 % 64 ∧ (b0 % 16 * 4096 + b1 % 64 * 64 + b2 % 64 < 55296 ∨ 57344 ≤ b0 % 16 * 4096 + b1 % 64 * 64 + b2 % 64)
  · rw [if_pos c3]; exact .inr (.inr (.inl ⟨c3.1, c3.2.1, c3.2.2.1, c3.2.2.2.1, c3.2.2.2.2.1, c3.2.2.2.2.2, rfl⟩))
  rw [if_neg c3]
  by_cases c4 : b0 / 8 = 30 ∧ 3 < n ∧ b1 / 64 = 2 ∧ b2 / 64 = 2 ∧ b3 / 64 = 2 ∧ 65536 ≤ b0 % 8 * 262144 + b1 % 64 * 4096 + b2 % 64 * 64 + b3 % 64 ∧ b0 % 8 * 262144 + b1 % 64 * 4096 + b2 % 64 * 64 + b3 % 64 ≤ 1114111
  · rw [if_pos c4]; exact .inr (.inr (.inr (.inl ⟨c4.1, c4.2.1, c4.2.2.1, c4.2.2.2.1, c4.2.2.2.2.1, c4.2.2.2.2.2.1, c4.2.2.2.2.2.2, rfl⟩)))
  rw [if_neg c4]
  exact .inr (.inr (.inr (.inr ⟨rfl, .inr c1, c2, c3, c4⟩)))
theorem nx_one (n b0 b1 b2 b3 : Nat) (h0 : 0 < n) (h : b0 < 128) : nx n b0 b1 b2 b3 = (b0, 1) := by unfold nx; rw [if_neg (by omega), if_pos h]
theorem nx_two (n b0 b1 b2 b3 : Nat) (h : b0 / 32 = 6 ∧ 1 < n ∧ b1 / 64 = 2 ∧ 128 ≤ b0 % 32 * 64 + b1 % 64) : nx n b0 b1 b2 b3 = (b0 % 32 * 64 + b1 % 64, 2) := by unfold nx; rw [if_neg (by omega), if_neg (by omega), if_pos h]
theorem nx_three (n b0 b1 b2 b3 : Nat) (h : b0 / 16 = 14 ∧ 2 < n ∧ b1 / 64 = 2 ∧ b2 / 64 = 2 ∧ 2048 ≤ b0 % 16 * 4096 + b1 % 64 * 64 + b2 % 64 ∧ (b0 % 16 * 4096 + b1 % 64 * 64 + b2 % 64 < 55296 ∨ 57344 ≤ b0 % 16 * 4096 + b1 % 64 * 64 + b2 % 64)) : nx n b0 b1 b2 b3 = (b0 % 16 * 4096 + b1 % 64 * 64 + b2 % 64, 3) := by unfold nx; rw [if_neg (by omega), if_neg (by omega), if_neg (by omega), if_pos h]
theorem nx_four (n b0 b1 b2 b3 : Nat) (h : b0 / 8 = 30 ∧ 3 < n ∧ b1 / 64 = 2 ∧ b2 / 64 = 2 ∧ b3 / 64 = 2 ∧ 65536 ≤ b0 % 8 * 262144 + b1 % 64 * 4096 + b2 % 64 * 64 + b3 % 64 ∧ b0 % 8 * 262144 + b1 % 64 * 4096 + b2 % 64 * 64 + b3 % 64 ≤ 1114111) : nx n b0 b1 b2 b3 = (b0 % 8 * 262144 + b1 % 64 * 4096 + b2 % 64 * 64 + b3 % 64, 4) := by unfold nx; rw [if_neg (by omega), if_neg (by omega), if_neg (by omega), if_neg (by omega), if_pos h]
/-- What stands at the front stays, whatever comes behind it. -/
theorem nxt_take (l m : List UInt8) (h : 0 < (nxt l).2) : nxt (l.take (nxt l).2 ++ m) = nxt l := by
  have hle := nxt_le l
  rcases shape4 l (nxt l).2 hle.1 hle.2 with h0 | ⟨a, r, h1, e⟩ | ⟨a, b, r, h1, e⟩ | ⟨a, b, c, r, h1, e⟩ | ⟨a, b, c, d, r, h1, e⟩
  · omega
  all_goals
    rw [h1]
    subst e
    simp only [List.take_succ_cons, List.take_zero, List.cons_append, List.nil_append]
    unfold nxt at h1 ⊢
    simp only [List.length_cons, List.getD_cons_zero, List.getD_cons_succ] at h1 ⊢
  · rcases nx_shape (r.length + 1) a.toNat (r.getD 0 0).toNat (r.getD 1 0).toNat (r.getD 2 0).toNat with ⟨c0, c, e⟩ | ⟨c1, c2, c3, cv, e⟩ | ⟨c1, c2, c3, c4, cv, cs, e⟩ | ⟨c1, c2, c3, c4, c5, cv, cw, e⟩ | ⟨e, _⟩
    all_goals (rw [e] at h1 ⊢; simp only at h1)
    · exact nx_one _ _ _ _ _ (by omega) c
    all_goals omega
  · rcases nx_shape (r.length + 1 + 1) a.toNat b.toNat (r.getD 0 0).toNat (r.getD 1 0).toNat with ⟨c0, c, e⟩ | ⟨c1, c2, c3, cv, e⟩ | ⟨c1, c2, c3, c4, cv, cs, e⟩ | ⟨c1, c2, c3, c4, c5, cv, cw, e⟩ | ⟨e, _⟩
    all_goals (rw [e] at h1 ⊢; simp only at h1)
    · omega
    · exact nx_two _ _ _ _ _ ⟨c1, by omega, c3, cv⟩
    all_goals omega
  · rcases nx_shape (r.length + 1 + 1 + 1) a.toNat b.toNat c.toNat (r.getD 0 0).toNat with ⟨c0, c, e⟩ | ⟨c1, c2, c3, cv, e⟩ | ⟨c1, c2, c3, c4, cv, cs, e⟩ | ⟨c1, c2, c3, c4, c5, cv, cw, e⟩ | ⟨e, _⟩
    all_goals (rw [e] at h1 ⊢; simp only at h1)
    · omega
    · omega
    · exact nx_three _ _ _ _ _ ⟨c1, by omega, c3, c4, cv, cs⟩
    all_goals omega
  · rcases nx_shape (r.length + 1 + 1 + 1 + 1) a.toNat b.toNat c.toNat d.toNat with ⟨c0, c, e⟩ | ⟨c1, c2, c3, cv, e⟩ | ⟨c1, c2, c3, c4, cv, cs, e⟩ | ⟨c1, c2, c3, c4, c5, cv, cw, e⟩ | ⟨e, _⟩
    all_goals (rw [e] at h1 ⊢; simp only at h1)
    · omega
    · omega
    · omega
    · exact nx_four _ _ _ _ _ ⟨c1, by omega, c3, c4, c5, cv, cw⟩
    all_goals omega
/-- Cut within a code point nothing stands at the front. -/
theorem nxt_cut (l : List UInt8) (j : Nat) (h : j < (nxt l).2) : nxt (l.take j) = (0, 0) := by
  have hle := nxt_le l
  have hj : (l.take j).length = j := by rw [List.length_take]; omega
  by_cases hj0 : j = 0
  · subst hj0; rfl
  have g0 : (l.take j).getD 0 0 = l.getD 0 0 := by rw [List.getD_eq_getElem?_getD, List.getD_eq_getElem?_getD, List.getElem?_take_of_lt (by omega)]
  unfold nxt at h ⊢
  rw [hj, g0]
  have k0 := (l.getD 0 0).toNat_lt
  generalize (l.getD 0 0).toNat = b0 at h k0 ⊢
  have hb : ∀ b1 b2 b3 : Nat, nx j b0 b1 b2 b3 = (0, 0) := by
    intro b1 b2 b3
    rcases nx_shape l.length b0 (l.getD 1 0).toNat (l.getD 2 0).toNat (l.getD 3 0).toNat with ⟨c0, c, e⟩ | ⟨c1, c2, c3, cv, e⟩ | ⟨c1, c2, c3, c4, cv, cs, e⟩ | ⟨c1, c2, c3, c4, c5, cv, cw, e⟩ | ⟨e, _⟩
    all_goals (rw [e] at h; simp only at h)
    · omega
    · unfold nx; rw [if_neg (by omega), if_neg (by omega), if_neg (by omega), if_neg (by omega), if_neg (by omega)]
    · unfold nx; rw [if_neg (by omega), if_neg (by omega), if_neg (by omega), if_neg (by omega), if_neg (by omega)]
    · unfold nx; rw [if_neg (by omega), if_neg (by omega), if_neg (by omega), if_neg (by omega), if_neg (by omega)]
    · omega
  exact hb _ _ _
theorem getD_small (l : List UInt8) (i : Nat) : (smallL l).getD i 0 = lowB (l.getD i 0) := by
  unfold smallL
  rw [List.getD_eq_getElem?_getD, List.getD_eq_getElem?_getD, List.getElem?_map]
  cases l[i]? with
  | none => rfl
  | some b => rfl
theorem nxt_small (l : List UInt8) : (nxt (smallL l)).2 = (nxt l).2 := by
  unfold nxt
  have hlen : (smallL l).length = l.length := by rw [smallL, List.length_map]
  rw [hlen, getD_small, getD_small, getD_small, getD_small, lowB_nat, lowB_nat, lowB_nat, lowB_nat]
  have k0 := (l.getD 0 0).toNat_lt
  have k1 := (l.getD 1 0).toNat_lt
  have k2 := (l.getD 2 0).toNat_lt
  have k3 := (l.getD 3 0).toNat_lt
  generalize (l.getD 0 0).toNat = b0 at k0 ⊢
  generalize (l.getD 1 0).toNat = b1 at k1 ⊢
  generalize (l.getD 2 0).toNat = b2 at k2 ⊢
  generalize (l.getD 3 0).toNat = b3 at k3 ⊢
  generalize l.length = n
  have low : ∀ b : Nat, b < 128 ↔ (if 65 ≤ b ∧ b ≤ 90 then b + 32 else b) < 128 := fun b => by split <;> omega
  by_cases c0 : n = 0
  · subst c0; rfl
  by_cases c1 : b0 < 128
  · rw [nx_one _ _ _ _ _ (by omega) ((low b0).1 c1), nx_one _ _ _ _ _ (by omega) c1]
  have e0 : (if 65 ≤ b0 ∧ b0 ≤ 90 then b0 + 32 else b0) = b0 := by rw [if_neg (by omega)]
  rw [e0]
  have same : ∀ b : Nat, b / 64 = 2 → (if 65 ≤ b ∧ b ≤ 90 then b + 32 else b) = b := fun b h => by rw [if_neg (by omega)]
  have back : ∀ b : Nat, (if 65 ≤ b ∧ b ≤ 90 then b + 32 else b) / 64 = 2 → b / 64 = 2 := fun b h => by split at h <;> omega
  rcases nx_shape n b0 b1 b2 b3 with ⟨z0, c, e⟩ | ⟨z1, z2, z3, zv, e⟩ | ⟨z1, z2, z3, z4, zv, zs, e⟩ | ⟨z1, z2, z3, z4, z5, zv, zw, e⟩ | ⟨e, y1, y2, y3, y4⟩
  · omega
  · rw [e, same b1 z3, nx_two _ _ _ _ _ ⟨z1, z2, z3, zv⟩]
  · rw [e, same b1 z3, same b2 z4, nx_three _ _ _ _ _ ⟨z1, z2, z3, z4, zv, zs⟩]
  · rw [e, same b1 z3, same b2 z4, same b3 z5, nx_four _ _ _ _ _ ⟨z1, z2, z3, z4, z5, zv, zw⟩]
  · rw [e]
    rcases nx_shape n b0 (if 65 ≤ b1 ∧ b1 ≤ 90 then b1 + 32 else b1) (if 65 ≤ b2 ∧ b2 ≤ 90 then b2 + 32 else b2) (if 65 ≤ b3 ∧ b3 ≤ 90 then b3 + 32 else b3) with ⟨z0, c, e⟩ | ⟨z1, z2, z3, zv, e⟩ | ⟨z1, z2, z3, z4, zv, zs, e⟩ | ⟨z1, z2, z3, z4, z5, zv, zw, e⟩ | ⟨e, _⟩
    · omega
    · exfalso; have q1 := back b1 z3; rw [same b1 q1] at zv; exact y2 ⟨z1, z2, q1, zv⟩
    · exfalso; have q1 := back b1 z3; have q2 := back b2 z4; rw [same b1 q1, same b2 q2] at zv zs; exact y3 ⟨z1, z2, q1, q2, zv, zs⟩
    · exfalso; have q1 := back b1 z3; have q2 := back b2 z4; have q3 := back b3 z5; rw [same b1 q1, same b2 q2, same b3 q3] at zv zw; exact y4 ⟨z1, z2, q1, q2, q3, zv, zw⟩
    · rw [e]
theorem small_drop (l : List UInt8) (k : Nat) : smallL (l.drop k) = (smallL l).drop k := by unfold smallL; rw [List.map_drop]
theorem fault_small : ∀ (n : Nat) (l : List UInt8), l.length ≤ n → faultL (smallL l) = faultL l := by
  intro n
  induction n with
  | zero => intro l h; rw [List.eq_nil_of_length_eq_zero (by omega : l.length = 0)]; rfl
  | succ n ih =>
    intro l h
    rw [faultL_eq, faultL_eq l, nxt_small]
    split
    · rw [← small_drop, ih (l.drop (nxt l).2) (by rw [List.length_drop]; omega)]
    · rfl
theorem lowB_low (b : UInt8) : lowB (lowB b) = lowB b := by
  apply UInt8.toNat_inj.1
  rw [lowB_nat, lowB_nat]
  by_cases h : 65 ≤ b.toNat ∧ b.toNat ≤ 90
  · rw [if_pos h, if_neg (by omega)]
  · rw [if_neg h, if_neg h]
theorem small_small (l : List UInt8) : smallL (smallL l) = smallL l := by unfold smallL; rw [List.map_map]; congr 1; funext b; exact lowB_low b
/-- A right head, and anything behind it. -/
theorem fault_join : ∀ (n : Nat) (l m : List UInt8), l.length ≤ n → faultL (l.take (faultL l) ++ m) = faultL l + faultL m := by
  intro n
  induction n with
  | zero => intro l m h; rw [List.eq_nil_of_length_eq_zero (by omega : l.length = 0)]; simp [faultL_nil]
  | succ n ih =>
    intro l m h
    rw [faultL_eq l]
    by_cases hp : 0 < (nxt l).2
    · rw [if_pos hp]
      have hle := (nxt_le l).1
      have e1 : l.take ((nxt l).2 + faultL (l.drop (nxt l).2)) ++ m = l.take (nxt l).2 ++ ((l.drop (nxt l).2).take (faultL (l.drop (nxt l).2)) ++ m) := by
        rw [List.take_add, List.append_assoc]
      rw [e1, faultL_eq, nxt_take l _ hp, if_pos hp, List.drop_left' (by rw [List.length_take]; omega), ih (l.drop (nxt l).2) m (by rw [List.length_drop]; omega)]
      omega
    · rw [if_neg hp]
      simp

/-! ### letters: code points from one to another one -/
def letters : List (Int × Int) := [(0x30, 0x39), (0x41, 0x5a), (0x61, 0x7a), (0xaa, 0xaa), (0xb5, 0xb5), (0xba, 0xba), (0xc0, 0xd6), (0xd8, 0xf6), (0xf8, 0x2af), (0x300, 0x36f), (0x370, 0x373), (0x376, 0x377),
  (0x37b, 0x37d), (0x37f, 0x37f), (0x386, 0x386), (0x388, 0x38a), (0x38c, 0x38c), (0x38e, 0x3a1), (0x3a3, 0x481), (0x48a, 0x52f), (0x531, 0x556), (0x561, 0x586), (0x5d0, 0x5ea), (0x620, 0x64a),
  (0x660, 0x669), (0x66e, 0x6d3), (0x6f0, 0x6f9), (0x904, 0x939), (0x966, 0x96f), (0xe01, 0xe30), (0xe40, 0xe46), (0x10a0, 0x10c5), (0x10d0, 0x10fa), (0x1e00, 0x1fbc), (0x3041, 0x3096), (0x30a1, 0x30fa),
  (0x3400, 0x4dbf), (0x4e00, 0x9fff), (0xac00, 0xd7a3), (0xff10, 0xff19), (0xff21, 0xff3a), (0xff41, 0xff5a), (0x20000, 0x2a6df)]
def inPairs (l : List (Int × Int)) (c : Int) : Bool := l.any fun x => decide (x.1 ≤ c) && decide (c ≤ x.2)
def letterB (c : Int) : Bool := inPairs letters c
end Go.Proofs.YtpgcepfecmkkaaaDoor
