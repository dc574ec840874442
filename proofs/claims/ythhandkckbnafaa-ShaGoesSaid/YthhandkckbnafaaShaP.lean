/-
  SHA-256 on natural numbers: a word turned to the right; what turns answers.
-/
import Derived.Test.YthhandkckbnafaaZAx
import Derived.Laws.BitsAllLaws
set_option linter.unusedVariables false
set_option linter.unusedSimpArgs false
namespace Go.Proofs.Ythhandkckbnafaa
open Go.RowKit Go.Proofs.YthhandkckbnafaaZ.ZA Go.Proofs.YthhandkckbnafaaW.PrintWords
def rot (x n : Nat) : Nat := x / 2 ^ n + x % 2 ^ n * 2 ^ (32 - n)
theorem cnt_all : ((List.range 32).all fun n => n == 0 || (Go.bits .and .u64 (IntKind.u64.wrap (wrap64 (-((n : Nat) : Int)))) 31 == ((32 - n : Nat) : Int))) = true := by kernel_rfl
theorem rot_lt (x n : Nat) (hx : x < 4294967296) (h0 : 0 < n) (h1 : n < 32) : rot x n < 4294967296 := rot_bound x n hx h0 h1
theorem rotl_eq (x n : Nat) (hx : x < 4294967296) (h0 : 0 < n) (h1 : n < 32) : bits_RotateLeft32.f (x : Int) (wrap64 (-(n : Int))) = some ((rot x n : Nat) : Int) := by
  have hc : Go.bits .and .u64 (IntKind.u64.wrap (wrap64 (-(n : Int)))) 31 = ((32 - n : Nat) : Int) := by
    have h := List.all_eq_true.1 cnt_all n (List.mem_range.2 h1)
    rcases Bool.or_eq_true _ _ ▸ h with h | h
    · have := eq_of_beq h; omega
    · exact eq_of_beq h
  have hw : IntKind.u64.wrap (32 - ((32 - n : Nat) : Int)) = (n : Int) := by
    have e : ∀ z : Int, IntKind.u64.wrap z = z % 18446744073709551616 := fun z => by simp [IntKind.wrap, IntKind.bits, IntKind.signed]
    rw [e]; omega
  have hpq : 2 ^ n * 2 ^ (32 - n) = 4294967296 := by rw [← Nat.pow_add, show n + (32 - n) = 32 by omega]
  have hlt : x / 2 ^ n < 2 ^ (32 - n) := Nat.div_lt_of_lt_mul (by rw [hpq]; exact hx)
  have hrot := rot_lt x n hx h0 h1
  unfold rot at hrot
  unfold bits_RotateLeft32.f
  rw [hc, if_pos (by omega), hw, if_pos (by omega)]
  have e1 : shl .u32 (x : Int) ((32 - n : Nat) : Int) = ((x % 2 ^ n * 2 ^ (32 - n) : Nat) : Int) := by
    unfold shl
    rw [IntKind.wrap_u32', Int.toNat_natCast, Nat.min_eq_left (by show 32 - n ≤ 32; omega)]
    have : (x : Int) * 2 ^ (32 - n) % 4294967296 = ((x * 2 ^ (32 - n) % 4294967296 : Nat) : Int) := by simp
    rw [this, ← hpq, Nat.mul_mod_mul_right]
  have e2 : shr .u32 (x : Int) (n : Int) = ((x / 2 ^ n : Nat) : Int) := by
    unfold shr
    rw [Int.toNat_natCast, Nat.min_eq_left (by show n ≤ 32; omega)]
    simp
  have hor := Nat.shiftLeft_add_eq_or_of_lt hlt (x % 2 ^ n)
  rw [Nat.shiftLeft_eq] at hor
  rw [e1, e2, u32_or_nat _ _ (Nat.lt_of_le_of_lt (Nat.le_add_left _ _) hrot) (Nat.lt_of_le_of_lt (Nat.le_add_right _ _) hrot), ← hor]
  unfold rot
  rw [Nat.add_comm]
theorem turns2 (x a b : Nat) (hx : x < 4294967296) (ha : 0 < a ∧ a < 32) (hb : 0 < b ∧ b < 32) : sha_turns.f 5 (x : Int) [(a : Int), (b : Int)] = some ((rot x a ^^^ rot x b : Nat) : Int) := by
  have r1 := rotl_eq x a hx ha.1 ha.2
  have r2 := rotl_eq x b hx hb.1 hb.2
  have l1 := rot_lt x a hx ha.1 ha.2
  have l2 := rot_lt x b hx hb.1 hb.2
  unfold sha_turns.f
  have w1 : wrap64 ((0 : Int) + 1) = 1 := by unfold wrap64; omega
  have w2 : wrap64 ((1 : Int) + 1) = 2 := by unfold wrap64; omega
  have q0 : rd [(a : Int), (b : Int)] 0 = (a : Int) := rfl
  have q1 : rd [(a : Int), (b : Int)] 1 = (b : Int) := rfl
  have b1 : Go.bits .xor .u32 0 ((rot x a : Nat) : Int) = ((rot x a : Nat) : Int) := by
    have := u32_xor_nat 0 (rot x a) (by decide) l1
    rw [Nat.zero_xor] at this
    exact this
  have b2 := u32_xor_nat (rot x a) (rot x b) l1 l2
  simp only [sha_turns.l0, List.length_cons, List.length_nil, w1, w2, q0, q1, r1, r2, Option.bind_some, b1, b2, Nat.reduceAdd]
  rfl
theorem turns3 (x a b c : Nat) (hx : x < 4294967296) (ha : 0 < a ∧ a < 32) (hb : 0 < b ∧ b < 32) (hc : 0 < c ∧ c < 32) : sha_turns.f 5 (x : Int) [(a : Int), (b : Int), (c : Int)] = some ((rot x a ^^^ rot x b ^^^ rot x c : Nat) : Int) := by
  have r1 := rotl_eq x a hx ha.1 ha.2
  have r2 := rotl_eq x b hx hb.1 hb.2
  have r3 := rotl_eq x c hx hc.1 hc.2
  have l1 := rot_lt x a hx ha.1 ha.2
  have l2 := rot_lt x b hx hb.1 hb.2
  have l3 := rot_lt x c hx hc.1 hc.2
  have l12 : rot x a ^^^ rot x b < 4294967296 := Nat.xor_lt_two_pow (n := 32) l1 l2
  unfold sha_turns.f
  have w1 : wrap64 ((0 : Int) + 1) = 1 := by unfold wrap64; omega
  have w2 : wrap64 ((1 : Int) + 1) = 2 := by unfold wrap64; omega
  have w3 : wrap64 ((2 : Int) + 1) = 3 := by unfold wrap64; omega
  have q0 : rd [(a : Int), (b : Int), (c : Int)] 0 = (a : Int) := rfl
  have q1 : rd [(a : Int), (b : Int), (c : Int)] 1 = (b : Int) := rfl
  have q2 : rd [(a : Int), (b : Int), (c : Int)] 2 = (c : Int) := rfl
  have b1 : Go.bits .xor .u32 0 ((rot x a : Nat) : Int) = ((rot x a : Nat) : Int) := by
    have := u32_xor_nat 0 (rot x a) (by decide) l1
    rw [Nat.zero_xor] at this
    exact this
  have b2 := u32_xor_nat (rot x a) (rot x b) l1 l2
  have b3 := u32_xor_nat (rot x a ^^^ rot x b) (rot x c) l12 l3
  simp only [sha_turns.l0, List.length_cons, List.length_nil, w1, w2, w3, q0, q1, q2, r1, r2, r3, Option.bind_some, b1, b2, b3, Nat.reduceAdd]
  rfl
end Go.Proofs.Ythhandkckbnafaa
