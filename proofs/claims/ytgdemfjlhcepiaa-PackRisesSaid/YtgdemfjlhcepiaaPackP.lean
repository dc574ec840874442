/-
  Numbers as bytes: plain laws, no program.
-/
import Derived.Test.YtgdemfjlhcepiaaPackB
set_option linter.unusedVariables false
set_option linter.unusedSimpArgs false
namespace Go.Proofs.Ytgdemfjlhcepiaa

theorem bitLenAux_le_iff (f : Nat) : ∀ x k, x < 2 ^ f → (Lib.bitLenAux f x ≤ k ↔ x < 2 ^ k) := by
  induction f with
  | zero => intro x k hx; have : x = 0 := by simpa using hx
            subst this; simp [Lib.bitLenAux]; exact Nat.two_pow_pos k
  | succ f ih =>
    intro x k hx
    simp only [Lib.bitLenAux]
    by_cases h0 : x = 0
    · subst h0; simp; exact Nat.two_pow_pos k
    · rw [if_neg h0]
      cases k with
      | zero => simp; omega
      | succ k =>
        have := ih (x / 2) k (by rw [Nat.pow_succ] at hx; omega)
        rw [Nat.pow_succ]
        constructor
        · intro h; have := this.1 (by omega); omega
        · intro h; have := this.2 (by omega); omega
theorem nb_le_iff (x m : Nat) (hx : x < 18446744073709551616) : nb x ≤ m ↔ x < 256 ^ m := by
  have h := bitLenAux_le_iff 64 x (8 * m) (by simpa using hx)
  have e : (256 : Nat) ^ m = 2 ^ (8 * m) := by rw [Nat.pow_mul]
  rw [e, ← h]
  unfold nb Lib.bitLen
  omega
theorem nb_zero : nb 0 = 0 := rfl
theorem nb_div (x : Nat) (hx : x < 18446744073709551616) (h0 : 0 < x) : nb x = nb (x / 256) + 1 := by
  have h1 : ∀ m, nb x ≤ m + 1 ↔ nb (x / 256) ≤ m := by
    intro m
    rw [nb_le_iff x _ hx, nb_le_iff _ _ (by omega), Nat.pow_succ]
    omega
  have h2 : ¬ nb x ≤ 0 := by rw [nb_le_iff x 0 hx]; simp; omega
  have h3 := (h1 (nb x - 1)).1 (by omega)
  have h4 := (h1 (nb (x / 256))).2 (Nat.le_refl _)
  omega
theorem be_val (x k : Nat) : val (be x k) = x % 256 ^ k := by
  induction k with
  | zero => simp [be, val, Nat.mod_one]
  | succ k ih =>
    have hg : ∀ (l : List UInt8) a, l.foldl (fun a c => 256 * a + c.toNat) a = a * 256 ^ l.length + val l := by
      intro l
      induction l with
      | nil => intro a; simp [val]
      | cons c r ihl =>
        intro a
        have e2 : val (c :: r) = List.foldl (fun a c => 256 * a + c.toNat) c.toNat r := by simp [val]
        rw [List.foldl_cons, ihl, e2, ihl, List.length_cons, Nat.pow_succ, Nat.add_mul, Nat.mul_comm 256 a, Nat.mul_assoc, Nat.mul_comm 256, Nat.add_assoc]
    have e : val (be x (k + 1)) = (UInt8.ofNat (x / 256 ^ k)).toNat * 256 ^ k + val (be x k) := by
      have := hg (be x k) ((UInt8.ofNat (x / 256 ^ k)).toNat)
      rw [be_length] at this
      rw [← this]; simp [be, val]
    rw [e, ih, show (UInt8.ofNat (x / 256 ^ k)).toNat = x / 256 ^ k % 256 from UInt8.toNat_ofNat', Nat.pow_succ, Nat.mod_mul, Nat.mul_comm, Nat.add_comm]

/-! ### the order -/
theorem u8_lt (a b : UInt8) : (a < b) ↔ a.toNat < b.toNat := UInt8.lt_iff_toNat_lt
theorem less_cons (a b : UInt8) (x y : List UInt8) : Op.bytesLess (a :: x) (b :: y) = (decide (a.toNat < b.toNat) || (decide (a.toNat = b.toNat) && Op.bytesLess x y)) := by
  simp only [Op.bytesLess]
  congr 1
  congr 1
  rw [Bool.eq_iff_iff]
  simp [UInt8.toNat_inj]
theorem less_be (x y k : Nat) : Op.bytesLess (be x k) (be y k) = decide (x % 256 ^ k < y % 256 ^ k) := by
  induction k with
  | zero => simp [be, Op.bytesLess, Nat.mod_one]
  | succ k ih =>
    have e1 : (UInt8.ofNat (x / 256 ^ k)).toNat = x / 256 ^ k % 256 := UInt8.toNat_ofNat'
    have e2 : (UInt8.ofNat (y / 256 ^ k)).toNat = y / 256 ^ k % 256 := UInt8.toNat_ofNat'
    rw [be, be, less_cons, ih, e1, e2, Nat.pow_succ, Nat.mod_mul, Nat.mod_mul]
    have h1 : x % 256 ^ k < 256 ^ k := Nat.mod_lt _ (Nat.pow_pos (by decide))
    have h2 : y % 256 ^ k < 256 ^ k := Nat.mod_lt _ (Nat.pow_pos (by decide))
    generalize x % 256 ^ k = a at *
    generalize y % 256 ^ k = b at *
    generalize x / 256 ^ k % 256 = c
    generalize y / 256 ^ k % 256 = d
    generalize 256 ^ k = m at *
    rw [Bool.eq_iff_iff]
    simp only [Bool.or_eq_true, Bool.and_eq_true, decide_eq_true_eq]
    constructor
    · rintro (h | ⟨rfl, h⟩)
      · have : m * c + m ≤ m * d := by rw [← Nat.mul_succ]; exact Nat.mul_le_mul_left _ h
        omega
      · omega
    · intro h
      rcases Nat.lt_trichotomy c d with hcd | hcd | hcd
      · exact .inl hcd
      · subst hcd; exact .inr ⟨rfl, by omega⟩
      · have : m * d + m ≤ m * c := by rw [← Nat.mul_succ]; exact Nat.mul_le_mul_left _ hcd
        omega
theorem nb_lt (x : Nat) (hx : x < 18446744073709551616) : x < 256 ^ nb x := (nb_le_iff x _ hx).1 (Nat.le_refl _)
theorem nb_u8 (x : Nat) : (UInt8.ofNat (nb x)).toNat = nb x := by
  have := nb_le x
  rw [UInt8.toNat_ofNat_of_lt']
  show nb x < 256; omega
theorem less_enc (x y : Nat) (hx : x < 18446744073709551616) (hy : y < 18446744073709551616) : Op.bytesLess (encN x) (encN y) = decide (x < y) := by
  unfold encN
  rw [less_cons, nb_u8, nb_u8]
  rcases Nat.lt_trichotomy (nb x) (nb y) with h | h | h
  · have h1 : x < 256 ^ (nb y - 1) := (nb_le_iff x _ hx).1 (by omega)
    have h2 : ¬ y < 256 ^ (nb y - 1) := fun hh => by have := (nb_le_iff y _ hy).2 hh; omega
    rw [decide_eq_true h, decide_eq_true (show x < y by omega)]; rfl
  · rw [h, less_be, Nat.mod_eq_of_lt (by rw [← h]; exact nb_lt x hx), Nat.mod_eq_of_lt (nb_lt y hy)]
    simp
  · have h1 : y < 256 ^ (nb x - 1) := (nb_le_iff y _ hy).1 (by omega)
    have h2 : ¬ x < 256 ^ (nb x - 1) := fun hh => by have := (nb_le_iff x _ hx).2 hh; omega
    rw [decide_eq_false (by omega), decide_eq_false (show ¬ nb x = nb y by omega), decide_eq_false (show ¬ x < y by omega)]; rfl
theorem enc_inj (x y : Nat) (hx : x < 18446744073709551616) (hy : y < 18446744073709551616) (h : encN x = encN y) : x = y := by
  unfold encN at h
  injection h with h1 h2
  have h3 : nb x = nb y := by have := congrArg UInt8.toNat h1; rwa [nb_u8, nb_u8] at this
  have h4 := congrArg val h2
  rw [be_val, be_val, Nat.mod_eq_of_lt (nb_lt x hx), Nat.mod_eq_of_lt (nb_lt y hy)] at h4
  exact h4
theorem enc_prefix (x y n : Nat) (hx : x < 18446744073709551616) (hy : y < 18446744073709551616) (hn : n = min (encN x).length (encN y).length) (h : (encN x).take n = (encN y).take n) : x = y := by
  rw [encN_length, encN_length] at hn
  obtain ⟨m, rfl⟩ : ∃ m, n = m + 1 := ⟨n - 1, by omega⟩
  have h' := h
  unfold encN at h'
  rw [List.take_succ_cons, List.take_succ_cons] at h'
  injection h' with h1 h2
  have h3 : nb x = nb y := by have := congrArg UInt8.toNat h1; rwa [nb_u8, nb_u8] at this
  refine enc_inj x y hx hy ?_
  rwa [List.take_of_length_le (by rw [encN_length]; omega), List.take_of_length_le (by rw [encN_length]; omega)] at h
end Go.Proofs.Ytgdemfjlhcepiaa
