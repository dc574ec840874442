/-
  Numbers as bytes: plain laws, no program.
-/
import Derived.Test.YtpgcepfecmkkaaaDoorPackB
set_option linter.unusedVariables false
set_option linter.unusedSimpArgs false
namespace Go.Proofs.YtpgcepfecmkkaaaDoor

theorem bitLenAux_le_iff (f : Nat) : ∀ x k, x < 2 ^ f → (Lib.bitLenAux f x ≤ k ↔ x < 2 ^ k) := by
  induction f with
  | zero => intro x k hx; have : x = 0 := by simpa using hx
            subst this; simp [Lib.bitLenAux]; exact Nat.two_pow_pos k
  | succ f ih =>
    intro x k hx
    simp only [Lib.bitLenAux]
    by_cases h0 : x = 0
    · subst h0; simp; exact Nat.two_pow_pos k
    · rw [if_neg h0]
      cases k with
      | zero => simp; omega
      | succ k =>
        have := ih (x / 2) k (by rw [Nat.pow_succ] at hx; omega)
        rw [Nat.pow_succ]
        constructor
        · intro h; have := this.1 (by omega); omega
        · intro h; have := this.2 (by omega); omega
theorem nb_le_iff (x m : Nat) (hx : x < 18446744073709551616) : nb x ≤ m ↔ x < 256 ^ m := by
  have h := bitLenAux_le_iff 64 x (8 * m) (by simpa using hx)
  have e : (256 : Nat) ^ m = 2 ^ (8 * m) := by rw [Nat.pow_mul]
  rw [e, ← h]
  unfold nb Lib.bitLen
  omega
theorem nb_zero : nb 0 = 0 := rfl
theorem nb_div (x : Nat) (hx : x < 18446744073709551616) (h0 : 0 < x) : nb x = nb (x / 256) + 1 := by
  have h1 : ∀ m, nb x ≤ m + 1 ↔ nb (x / 256) ≤ m := by
    intro m
    rw [nb_le_iff x _ hx, nb_le_iff _ _ (by omega), Nat.pow_succ]
    omega
  have h2 : ¬ nb x ≤ 0 := by rw [nb_le_iff x 0 hx]; simp; omega
  have h3 := (h1 (nb x - 1)).1 (by omega)
  have h4 := (h1 (nb (x / 256))).2 (Nat.le_refl _)
  omega
theorem be_val (x k : Nat) : val (be x k) = x % 256 ^ k := by
  induction k with
  | zero => simp [be, val, Nat.mod_one]
  | succ k ih =>
    have hg : ∀ (l : List UInt8) a, l.foldl (fun a c => 256 * a + c.toNat) a = a * 256 ^ l.length + val l := by
      intro l
      induction l with
      | nil => intro a; simp [val]
      | cons c r ihl =>
        intro a
        have e2 : val (c :: r) = List.foldl (fun a c => 256 * a + c.toNat) c.toNat r := by simp [val]
        rw [List.foldl_cons, ihl, e2, ihl, List.length_cons, Nat.pow_succ, Nat.add_mul, Nat.mul_comm 256 a, Nat.mul_assoc, Nat.mul_comm 256, Nat.add_assoc]
    have e : val (be x (k + 1)) = (UInt8.ofNat (x / 256 ^ k)).toNat * 256 ^ k + val (be x k) := by
      have := hg (be x k) ((UInt8.ofNat (x / 256 ^ k)).toNat)
      rw [be_length] at this
      rw [← this]; simp [be, val]
    rw [e, ih, show (UInt8.ofNat (x / 256 ^ k)).toNat = x / 256 ^ k % 256 from UInt8.toNat_ofNat', Nat.pow_succ, Nat.mod_mul, Nat.mul_comm, Nat.add_comm]

/-! ### the order -/
theorem u8_lt (a b : UInt8) : (a < b) ↔ a.toNat < b.toNat := UInt8.lt_iff_toNat_lt
theorem less_cons (a b : UInt8) (x y : List UInt8) : Op.bytesLess (a :: x) (b :: y) = (decide (a.toNat < b.toNat) || (decide (a.toNat = b.toNat) && Op.bytesLess x y)) := by
  simp only [Op.bytesLess]
  congr 1
  congr 1
  rw [Bool.eq_iff_iff]
  simp [UInt8.toNat_inj]
theorem less_be (x y k : Nat) : Op.bytesLess (be x k) (be y k) = decide (x % 256 ^ k < y % 256 ^ k) := by
  induction k with
  | zero => simp [be, Op.bytesLess, Nat.mod_one]
  | succ k ih =>
    have e1 : (UInt8.ofNat (x / 256 ^ k)).toNat = x / 256 ^ k % 256 := UInt8.toNat_ofNat'
    have e2 : (UInt8.ofNat (y / 256 ^ k)).toNat = y / 256 ^ k % 256 := UInt8.toNat_ofNat'
    rw [be, be, less_cons, ih, e1, e2, Nat.pow_succ, Nat.mod_mul, Nat.mod_mul]
    have h1 : x % 256 ^ k < 256 ^ k := Nat.mod_lt _ (Nat.pow_pos (by decide))
    have h2 : y % 256 ^ k < 256 ^ k := Nat.mod_lt _ (Nat.pow_pos (by decide))
    generalize x % 256 ^ k = a at *
    generalize y % 256 ^ k = b at *
    generalize x / 256 ^ k % 256 = c
    generalize y / 256 ^ k % 256 = d
    generalize 256 ^ k = m at *
    rw [Bool.eq_iff_iff]
    simp only [Bool.or_eq_true, Bool.and_eq_true, decide_eq_true_eq]
    constructor
    · rintro (h | ⟨rfl, h⟩)
      · have : m * c + m ≤ m * d := by rw [← Nat.mul_succ]; exact Nat.mul_le_mul_left _ h
        omega
      · omega
    · intro h
      rcases Nat.lt_trichotomy c d with hcd | hcd | hcd
      · exact .inl hcd
      · subst hcd; exact .inr ⟨rfl, by omega⟩
      · have : m * d + m ≤ m * c := by rw [← Nat.mul_succ]; exact Nat.mul_le_mul_left _ hcd
        omega
theorem nb_lt (x : Nat) (hx : x < 18446744073709551616) : x < 256 ^ nb x := (nb_le_iff x _ hx).1 (Nat.le_refl _)
theorem nb_u8 (x : Nat) : (UInt8.ofNat (nb x)).toNat = nb x := by
  have := nb_le x
  rw [UInt8.toNat_ofNat_of_lt']
  show nb x < 256; omega
theorem less_enc (x y : Nat) (hx : x < 18446744073709551616) (hy : y < 18446744073709551616) : Op.bytesLess (encN x) (encN y) = decide (x < y) := by
  unfold encN
  rw [less_cons, nb_u8, nb_u8]
  rcases Nat.lt_trichotomy (nb x) (nb y) with h | h | h
  · have h1 : x < 256 ^ (nb y - 1) := (nb_le_iff x _ hx).1 (by omega)
    have h2 : ¬ y < 256 ^ (nb y - 1) := fun hh => by have := (nb_le_iff y _ hy).2 hh; omega
    rw [decide_eq_true h, decide_eq_true (show x < y by omega)]; rfl
  · rw [h, less_be, Nat.mod_eq_of_lt (by rw [← h]; exact nb_lt x hx), Nat.mod_eq_of_lt (nb_lt y hy)]
    simp
  · have h1 : y < 256 ^ (nb x - 1) := (nb_le_iff y _ hy).1 (by omega)
    have h2 : ¬ x < 256 ^ (nb x - 1) := fun hh => by have := (nb_le_iff x _ hx).2 hh; omega
    rw [decide_eq_false (by omega), decide_eq_false (show ¬ nb x = nb y by omega), decide_eq_false (show ¬ x < y by omega)]; rfl
theorem enc_inj (x y : Nat) (hx : x < 18446744073709551616) (hy : y < 18446744073709551616) (h : encN x = encN y) : x = y := by
  unfold encN at h
  injection h with h1 h2
  have h3 : nb x = nb y := by have := congrArg UInt8.toNat h1; rwa [nb_u8, nb_u8] at this
  have h4 := congrArg val h2
  rw [be_val, be_val, Nat.mod_eq_of_lt (nb_lt x hx), Nat.mod_eq_of_lt (nb_lt y hy)] at h4
  exact h4
theorem enc_prefix (x y n : Nat) (hx : x < 18446744073709551616) (hy : y < 18446744073709551616) (hn : n = min (encN x).length (encN y).length) (h : (encN x).take n = (encN y).take n) : x = y := by
  rw [encN_length, encN_length] at hn
  obtain ⟨m, rfl⟩ : ∃ m, n = m + 1 := ⟨n - 1, by omega⟩
  have h' := h
  unfold encN at h'
  rw [List.take_succ_cons, List.take_succ_cons] at h'
  injection h' with h1 h2
  have h3 : nb x = nb y := by have := congrArg UInt8.toNat h1; rwa [nb_u8, nb_u8] at this
  refine enc_inj x y hx hy ?_
  rwa [List.take_of_length_le (by rw [encN_length]; omega), List.take_of_length_le (by rw [encN_length]; omega)] at h

/-! ### what is read is what was written -/
theorem foldl_val (l : List UInt8) (a : Nat) : l.foldl (fun a c => 256 * a + c.toNat) a = a * 256 ^ l.length + val l := by
  induction l generalizing a with
  | nil => simp [val]
  | cons c r ihl =>
    have e2 : val (c :: r) = List.foldl (fun a c => 256 * a + c.toNat) c.toNat r := by simp [val]
    rw [List.foldl_cons, ihl, e2, ihl, List.length_cons, Nat.pow_succ, Nat.add_mul, Nat.mul_comm 256 a, Nat.mul_assoc, Nat.mul_comm 256, Nat.add_assoc]
theorem val_cons (c : UInt8) (r : List UInt8) : val (c :: r) = c.toNat * 256 ^ r.length + val r := by
  have e2 : val (c :: r) = List.foldl (fun a c => 256 * a + c.toNat) c.toNat r := by simp [val]
  rw [e2, foldl_val]
theorem be_mod (a b k : Nat) : ∀ j, j ≤ k → be (a * 256 ^ k + b) j = be b j := by
  intro j
  induction j with
  | zero => intro _; rfl
  | succ j ih =>
    intro hj
    rw [be, be, ih (by omega)]
    congr 1
    apply UInt8.toNat_inj.1
    rw [show (UInt8.ofNat ((a * 256 ^ k + b) / 256 ^ j)).toNat = (a * 256 ^ k + b) / 256 ^ j % 256 from UInt8.toNat_ofNat', show (UInt8.ofNat (b / 256 ^ j)).toNat = b / 256 ^ j % 256 from UInt8.toNat_ofNat']
    obtain ⟨m, rfl⟩ : ∃ m, k = j + 1 + m := ⟨k - (j + 1), by omega⟩
    have e : a * 256 ^ (j + 1 + m) = 256 ^ j * (256 * (a * 256 ^ m)) := by
      rw [show j + 1 + m = j + (1 + m) by omega, Nat.pow_add, Nat.pow_add, Nat.pow_one]
      simp only [Nat.mul_assoc, Nat.mul_left_comm, Nat.mul_comm]
    rw [e, Nat.add_comm, Nat.add_mul_div_left _ _ (Nat.pow_pos (by decide)), Nat.add_mul_mod_self_left]
theorem be_of_val (l : List UInt8) : be (val l) l.length = l := by
  induction l with
  | nil => rfl
  | cons c r ih =>
    rw [List.length_cons, be, val_cons, be_mod _ _ _ _ (Nat.le_refl _), ih]
    congr 1
    apply UInt8.toNat_inj.1
    rw [show (UInt8.ofNat ((c.toNat * 256 ^ r.length + val r) / 256 ^ r.length)).toNat = (c.toNat * 256 ^ r.length + val r) / 256 ^ r.length % 256 from UInt8.toNat_ofNat']
    have h1 := val_lt r
    have h2 := c.toNat_lt
    rw [Nat.mul_comm, Nat.mul_add_div (Nat.pow_pos (by decide)), Nat.div_eq_of_lt h1]
    omega
theorem first_enc {xs : List UInt8} {x s : Nat} (h : first xs = some (x, s)) : xs.take s = encN x ∧ s = nb x + 1 := by
  cases xs with
  | nil => simp [first] at h
  | cons k r =>
    simp only [first] at h
    split at h
    · simp at h
    · rename_i hc
      simp only [Option.some.injEq, Prod.mk.injEq] at h
      obtain ⟨rfl, rfl⟩ := h
      have hl : (r.take k.toNat).length = k.toNat := by rw [List.length_take]; omega
      have hx : val (r.take k.toNat) < 18446744073709551616 := val_lt64 _ (by omega)
      have hnb : nb (val (r.take k.toNat)) = k.toNat := by
        have h1 := (nb_le_iff _ k.toNat hx).2 (by have := val_lt (r.take k.toNat); rwa [hl] at this)
        by_cases h0 : k.toNat = 0
        · omega
        · have h2 : ¬ nb (val (r.take k.toNat)) ≤ k.toNat - 1 := by
            rw [nb_le_iff _ _ hx]
            obtain ⟨m, hm⟩ : ∃ m, k.toNat = m + 1 := ⟨k.toNat - 1, by omega⟩
            cases r with
            | nil => simp at hl; omega
            | cons a l =>
              rw [hm, List.take_succ_cons, val_cons]
              have ha : a.toNat ≠ 0 := fun e => hc (.inr (.inr ⟨by omega, e⟩))
              have hll : (l.take m).length = m := by rw [hm, List.take_succ_cons, List.length_cons] at hl; omega
              rw [hll, Nat.add_sub_cancel]
              have : 1 * 256 ^ m ≤ a.toNat * 256 ^ m := Nat.mul_le_mul_right _ (by omega)
              omega
          omega
      refine ⟨?_, by rw [hnb]⟩
      unfold encN
      rw [hnb, List.take_succ_cons]
      congr 1
      · apply UInt8.toNat_inj.1
        rw [UInt8.toNat_ofNat_of_lt']
        exact k.toNat_lt
      · have := be_of_val (r.take k.toNat)
        rw [hl] at this
        exact this.symm
theorem val_be (x : Nat) (hx : x < 18446744073709551616) : val (be x (nb x)) = x := by rw [be_val, Nat.mod_eq_of_lt (nb_lt x hx)]
theorem first_of_enc (x : Nat) (hx : x < 18446744073709551616) (r : List UInt8) : first (encN x ++ r) = some (x, nb x + 1) := by
  have h8 := nb_le x
  unfold encN
  simp only [List.cons_append, first]
  rw [nb_u8]
  have htk : (be x (nb x) ++ r).take (nb x) = be x (nb x) := by
    rw [List.take_append_of_le_length (by rw [be_length]; omega), List.take_of_length_le (by rw [be_length]; omega)]
  rw [htk, val_be x hx, if_neg]
  rintro (h | h | ⟨h1, h2⟩)
  · omega
  · simp [be_length] at h; omega
  · obtain ⟨m, hm⟩ : ∃ m, nb x = m + 1 := ⟨nb x - 1, by omega⟩
    rw [hm, be] at h2
    have h3 : x / 256 ^ m % 256 = 0 := by
      have : (UInt8.ofNat (x / 256 ^ m)).toNat = x / 256 ^ m % 256 := UInt8.toNat_ofNat'
      rw [← this]; simpa using h2
    have h4 : x < 256 ^ (m + 1) := by have := nb_lt x hx; rwa [hm] at this
    have h5 : x / 256 ^ m < 256 := Nat.div_lt_of_lt_mul (by rw [Nat.pow_succ] at h4; exact h4)
    have h6 : x / 256 ^ m = 0 := by rw [Nat.mod_eq_of_lt h5] at h3; exact h3
    have h7 : x < 256 ^ m := by
      rcases Nat.div_eq_zero_iff.1 h6 with h | h
      · exact absurd h (Nat.ne_of_gt (Nat.pow_pos (by decide)))
      · exact h
    have := (nb_le_iff x m hx).2 h7
    omega
end Go.Proofs.YtpgcepfecmkkaaaDoor
