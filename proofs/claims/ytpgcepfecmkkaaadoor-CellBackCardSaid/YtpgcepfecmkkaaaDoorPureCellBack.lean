/-
  CellBack: the plain law.
-/
import Derived.Test.YtpgcepfecmkkaaaDoorZAx
import Derived.Test.YtpgcepfecmkkaaaDoorCutP
import Derived.Laws.BitsAllLaws
set_option linter.unusedVariables false
set_option linter.unusedSimpArgs false
namespace Go.Proofs.YtpgcepfecmkkaaaDoor.Ref
open Go.RowKit Go.Proofs.YtpgcepfecmkkaaaDoor Go.Proofs.YtpgcepfecmkkaaaDoorZ.ZA Go.Proofs.YtpgcepfecmkkaaaDoorW.PrintWords

theorem w64 {x : Int} (h1 : -9223372036854775808 ≤ x) (h2 : x ≤ 9223372036854775807) : wrap64 x = x := by unfold wrap64; omega
theorem wf64 {x : Int} (h : (Lit.int .i64 x).wf = true) : -9223372036854775808 ≤ x ∧ x ≤ 9223372036854775807 := by
  simp only [Lit.wf, Bool.and_eq_true, decide_eq_true_eq] at h
  exact h
theorem tb_inj {s t : ByteArray} (h : tb s = tb t) : s = t := by rw [← st_tb s, ← st_tb t, h]

/-! ### a code point's bytes -/
/-- A loop's round. -/
theorem ev1 {α : Type} {g : Nat → Option α} {r : α} (f : Nat → Option α) (h : ∀ k, g (k + 1) = f k) (k : Ev f r) : Ev g r := Ev.step h k
theorem bind1 {α β : Type} {x : Option α} {a : α} {f : Nat → α → Option β} {r : β} (h : x = some a) (k : Ev (fun n => f n a) r) : Ev (fun n => x.bind (f n)) r := by
  rw [h]; exact k
end Go.Proofs.YtpgcepfecmkkaaaDoor.Ref
set_option linter.unusedVariables false
set_option linter.unusedSimpArgs false
namespace Go.Proofs.YtpgcepfecmkkaaaDoor.Ref
open Go.RowKit Go.Proofs.YtpgcepfecmkkaaaDoor Go.Proofs.YtpgcepfecmkkaaaDoorZ.ZA Go.Proofs.YtpgcepfecmkkaaaDoorW.PrintWords

theorem fault_some (s : ByteArray) (hs : s.size ≤ 140737488351232) : utf_Fault.f s = some (faultL (tb s) : Int) := by
  unfold utf_Fault.f
  rw [if_pos (by omega), faultB_eq]
theorem may_some (s : ByteArray) (hs : s.size ≤ 140737488351232) : utf_May.f s = some (decide (faultL (tb s) = s.size)) := by
  unfold utf_May.f
  rw [fault_some s hs]
  simp only [Option.bind_some, Option.some.injEq]
  rw [Bool.eq_iff_iff]; simp; omega
end Go.Proofs.YtpgcepfecmkkaaaDoor.Ref
set_option linter.unusedVariables false
set_option linter.unusedSimpArgs false
namespace Go.Proofs.YtpgcepfecmkkaaaDoor.Ref
open Go.RowKit Go.Proofs.YtpgcepfecmkkaaaDoor Go.Proofs.YtpgcepfecmkkaaaDoorZ.ZA Go.Proofs.YtpgcepfecmkkaaaDoorW.PrintWords

/-! ### columns -/
theorem sameCols_from (l : List S39) (hl : l.length ≤ 1000000) : ∀ (d i : Nat), l.length - i = d → i ≤ l.length → Ev (fun k => incipitref11_SameCols.l0 k l l (i : Int)) true := by
  intro d
  induction d with
  | zero =>
    intro i hd hi
    refine ev1 _ (fun k => by simp only [incipitref11_SameCols.l0]; rfl) ?_
    simp only [if_neg (show ¬ (i : Int) < (l.length : Int) by omega)]
    exact Ev.now _
  | succ d ih =>
    intro i hd hi
    refine ev1 _ (fun k => by simp only [incipitref11_SameCols.l0]; rfl) ?_
    simp only [if_pos (show (i : Int) < (l.length : Int) by omega), if_pos (show (0 : Int) ≤ (i : Int) by omega), beq_self_eq_true, Bool.not_true, Bool.or_false, Bool.false_eq_true, if_false]
    rw [w64 (by omega) (by omega)]
    exact ih (i + 1) (by omega) (by omega)
theorem sameCols_self (l : List S39) (hl : l.length ≤ 1000000) : Ev (fun k => incipitref11_SameCols.f k l l) true := by
  unfold incipitref11_SameCols.f
  simp only [if_true]
  exact sameCols_from l hl l.length 0 (by omega) (by omega)
theorem cell_may_some (l : List S39) (hsz : ∀ x ∈ l, x.f0.size ≤ 9223372036854775807) : cell_May.f l = some (mayB l) := by unfold cell_May.f; rw [if_pos hsz]
end Go.Proofs.YtpgcepfecmkkaaaDoor.Ref
set_option linter.unusedVariables false
set_option linter.unusedSimpArgs false
namespace Go.Proofs.YtpgcepfecmkkaaaDoor.Ref
open Go.RowKit Go.Proofs.YtpgcepfecmkkaaaDoor Go.Proofs.YtpgcepfecmkkaaaDoorZ.ZA Go.Proofs.YtpgcepfecmkkaaaDoorW.PrintWords

/-- What is wrong with a cell. -/
def wrongB (kd n : Int) (s : ByteArray) : Int := if kd = 2 then (if n = 0 then (if 256 < s.size then 3 else if faultL (tb s) = s.size then 0 else 8) else 1) else if kd = 1 then (if s.size = 0 then 0 else 1) else 6
theorem empty_iff (s : ByteArray) : s.toList = ([] : List UInt8) ↔ s.size = 0 := by
  have e : s.toList = tb s := Lib.toList_data s
  rw [e, ← tb_length]
  constructor
  · intro h; rw [h]; rfl
  · intro h; exact List.eq_nil_of_length_eq_zero h
theorem wrong_some (kd n : Int) (s : ByteArray) : cell_wrong.f kd n s = some (wrongB kd n s) := by
  unfold cell_wrong.f wrongB
  by_cases h1 : kd = 2
  · rw [if_pos h1, if_pos h1]
    by_cases h2 : n = 0
    · rw [if_pos h2, if_pos h2]
      by_cases h3 : 256 < s.size
      · rw [if_pos (show (s.size : Int) > 256 by omega), if_pos h3]
      · rw [if_neg (show ¬ (s.size : Int) > 256 by omega), if_neg h3, may_some s (by omega), Option.bind_some]
        by_cases h4 : faultL (tb s) = s.size
        · rw [if_pos (decide_eq_true h4), if_pos h4]
        · rw [if_neg (by rw [decide_eq_false h4]; simp), if_neg h4]
    · rw [if_neg h2, if_neg h2]
  · rw [if_neg h1, if_neg h1]
    by_cases h2 : kd = 1
    · rw [if_pos h2, if_pos h2]
      by_cases h3 : s.size = 0
      · rw [if_pos ((empty_iff s).2 h3), if_pos h3]
      · rw [if_neg (fun h => h3 ((empty_iff s).1 h)), if_neg h3]
    · rw [if_neg h2, if_neg h2]
theorem wide_from (l : List S56) : ∀ (d i : Nat), 101 - i = d → i ≤ 101 → i ≤ l.length → ∃ b, Ev (fun k => incipitlaw11_wide.l0 k l (i : Int)) b ∧ (b = false → l.length ≤ 100 ∧ ∀ m, i ≤ m → m < l.length → (rd_T56 l (m : Int)).f2.size ≤ 5000) := by
  intro d
  have last : ∀ i : Nat, (l.length ≤ i ∨ 101 ≤ i) → i ≤ l.length → ∃ b, Ev (fun k => incipitlaw11_wide.j1 k l (i : Int) false) b ∧ (b = false → l.length ≤ 100 ∧ ∀ m, i ≤ m → m < l.length → (rd_T56 l (m : Int)).f2.size ≤ 5000) := fun i hi hil => by
    refine ⟨decide ((l.length : Int) > 100), ?_, fun h => ?_⟩
    · refine ev1 _ (fun k => by simp only [incipitlaw11_wide.j1]; rfl) ?_
      simp only [Bool.false_eq_true, if_false]
      exact Ev.now _
    · have := of_decide_eq_false h
      exact ⟨by omega, fun m h1 h2 => by omega⟩
  induction d with
  | zero =>
    intro i hd hi hil
    obtain ⟨b, h1, h2⟩ := last i (.inr (by omega)) hil
    refine ⟨b, ?_, h2⟩
    refine ev1 _ (fun k => by simp only [incipitlaw11_wide.l0]; rfl) ?_
    by_cases hlt : (i : Int) < (l.length : Int)
    · simp only [if_pos hlt, decide_eq_false (show ¬ (i : Int) < 101 by omega)]; exact h1
    · simp only [if_neg hlt]; exact h1
  | succ d ih =>
    intro i hd hi hil
    by_cases hlt : i < l.length
    · have hw : wrap64 ((i : Int) + 1) = ((i + 1 : Nat) : Int) := by rw [w64 (by omega) (by omega)]; omega
      by_cases hbig : 5000 < (rd_T56 l (i : Int)).f2.size
      · refine ⟨true, ?_, fun h => (by cases h)⟩
        refine ev1 _ (fun k => by simp only [incipitlaw11_wide.l0]; rfl) ?_
        simp only [if_pos (show (i : Int) < (l.length : Int) by omega), decide_eq_true (show (i : Int) < 101 by omega)]
        refine ev1 _ (fun k => by simp only [incipitlaw11_wide.j1]; rfl) ?_
        simp only [if_true, if_pos (show (0 : Int) ≤ (i : Int) by omega), if_pos (show (i : Int) < (l.length : Int) by omega), if_pos (show ((rd_T56 l (i : Int)).f2.size : Int) > 5000 by omega)]
        exact Ev.now _
      · obtain ⟨b, h1, h2⟩ := ih (i + 1) (by omega) (by omega) (by omega)
        refine ⟨b, ?_, fun h => ⟨(h2 h).1, fun m hm hml => ?_⟩⟩
        · refine ev1 _ (fun k => by simp only [incipitlaw11_wide.l0]; rfl) ?_
          simp only [if_pos (show (i : Int) < (l.length : Int) by omega), decide_eq_true (show (i : Int) < 101 by omega)]
          refine ev1 _ (fun k => by simp only [incipitlaw11_wide.j1]; rfl) ?_
          simp only [if_true, if_pos (show (0 : Int) ≤ (i : Int) by omega), if_pos (show (i : Int) < (l.length : Int) by omega), if_neg (show ¬ ((rd_T56 l (i : Int)).f2.size : Int) > 5000 by omega), hw]
          exact h1
        · rcases Nat.eq_or_lt_of_le hm with h3 | h3
          · rw [← h3]; omega
          · exact (h2 h).2 m h3 hml
    · obtain ⟨b, h1, h2⟩ := last i (.inl (by omega)) hil
      refine ⟨b, ?_, h2⟩
      refine ev1 _ (fun k => by simp only [incipitlaw11_wide.l0]; rfl) ?_
      simp only [if_neg (show ¬ (i : Int) < (l.length : Int) by omega)]
      exact h1
theorem wide_ev (l : List S56) : ∃ b, Ev (fun k => incipitlaw11_wide.f k l) b ∧ (b = false → l.length ≤ 100 ∧ ∀ m : Nat, m < l.length → (rd_T56 l (m : Int)).f2.size ≤ 5000) := by
  obtain ⟨b, h1, h2⟩ := wide_from l _ 0 rfl (by omega) (Nat.zero_le _)
  exact ⟨b, h1, fun h => ⟨(h2 h).1, fun m hm => (h2 h).2 m (Nat.zero_le _) hm⟩⟩
theorem same_from (l : List S56) (hl : l.length ≤ 1000000) : ∀ (d i : Nat), l.length - i = d → i ≤ l.length → Ev (fun k => incipitref11_Same.l0 k l l (i : Int)) true := by
  intro d
  induction d with
  | zero =>
    intro i hd hi
    refine ev1 _ (fun k => by simp only [incipitref11_Same.l0]; rfl) ?_
    simp only [if_neg (show ¬ (i : Int) < (l.length : Int) by omega)]
    exact Ev.now _
  | succ d ih =>
    intro i hd hi
    refine ev1 _ (fun k => by simp only [incipitref11_Same.l0]; rfl) ?_
    simp only [if_pos (show (i : Int) < (l.length : Int) by omega), if_pos (show (0 : Int) ≤ (i : Int) by omega), beq_self_eq_true, Bool.not_true, Bool.or_false, Bool.false_eq_true, if_false]
    rw [w64 (by omega) (by omega)]
    exact ih (i + 1) (by omega) (by omega)
theorem same_self (l : List S56) (hl : l.length ≤ 1000000) : Ev (fun k => incipitref11_Same.f k l l) true := by
  unfold incipitref11_Same.f
  simp only [if_true]
  exact same_from l hl l.length 0 (by omega) (by omega)
end Go.Proofs.YtpgcepfecmkkaaaDoor.Ref
set_option linter.unusedVariables false
set_option linter.unusedSimpArgs false
namespace Go.Proofs.YtpgcepfecmkkaaaDoor.Ref
open Go.RowKit Go.Proofs.YtpgcepfecmkkaaaDoor Go.Proofs.YtpgcepfecmkkaaaDoorZ.ZA Go.Proofs.YtpgcepfecmkkaaaDoorW.PrintWords
set_option maxRecDepth 100000 in
theorem awake11_ev : Ev (fun k => incipitlaw11_awake.f k) true := Ev.of incipitlaw11_awake.mono (k := 400) (by decide +kernel)
end Go.Proofs.YtpgcepfecmkkaaaDoor.Ref
set_option linter.unusedVariables false
set_option linter.unusedSimpArgs false
namespace Go.Proofs.YtpgcepfecmkkaaaDoor.Pure
open Go.RowKit Go.Proofs.YtpgcepfecmkkaaaDoor Go.Proofs.YtpgcepfecmkkaaaDoor.Ref Go.Proofs.YtpgcepfecmkkaaaDoorZ.ZA Go.Proofs.YtpgcepfecmkkaaaDoorW.PrintWords
theorem xor_ones (a : Nat) (h : a < 18446744073709551616) : a ^^^ 18446744073709551615 = 18446744073709551615 - a := by
  have h1 : (BitVec.ofNat 64 a ^^^ BitVec.allOnes 64) = ~~~(BitVec.ofNat 64 a) := BitVec.xor_allOnes
  have h2 := congrArg BitVec.toNat h1
  rw [BitVec.toNat_xor, BitVec.toNat_not, BitVec.toNat_ofNat, BitVec.toNat_allOnes, Nat.mod_eq_of_lt (by omega : a < 2 ^ 64)] at h2
  exact h2
theorem wrapu (n : Int) : IntKind.u64.wrap n = n % 18446744073709551616 := by simp [IntKind.wrap, IntKind.bits, IntKind.signed]
theorem wrapi (n : Int) : IntKind.i64.wrap n = wrap64 n := by unfold Go.RowKit.wrap64; exact IntKind.wrap_i64 _
/-- A number without its sign. -/
def foldZ (n : Int) : Int := if n < 0 then -2 * n - 1 else 2 * n
theorem foldZ_rng (n : Int) (h1 : -9223372036854775808 ≤ n) (h2 : n ≤ 9223372036854775807) : 0 ≤ foldZ n ∧ foldZ n < 18446744073709551616 := by
  unfold foldZ; split <;> omega
theorem folded_eq (n : Int) (h1 : -9223372036854775808 ≤ n) (h2 : n ≤ 9223372036854775807) : cell_folded.f n = some (foldZ n) := by
  unfold cell_folded.f foldZ
  by_cases h : n < 0
  · have e1 : n / 9223372036854775808 = -1 := by omega
    have e2 : IntKind.u64.wrap (IntKind.u64.wrap n * 2) = 2 * n + 18446744073709551616 := by rw [wrapu, wrapu]; omega
    rw [e1, e2, show IntKind.u64.wrap (-1) = 18446744073709551615 from rfl, u64_xor _ _ (by omega) (by omega) (by decide) (by decide), show ((18446744073709551615 : Int).toNat) = 18446744073709551615 from rfl, xor_ones _ (by omega), if_pos h]
    congr 1
    omega
  · have e1 : n / 9223372036854775808 = 0 := by omega
    have e2 : IntKind.u64.wrap (IntKind.u64.wrap n * 2) = 2 * n := by rw [wrapu, wrapu]; omega
    rw [e1, e2, show IntKind.u64.wrap 0 = 0 from rfl, u64_xor _ _ (by omega) (by omega) (by decide) (by decide), show ((0 : Int).toNat) = 0 from rfl, Nat.xor_zero, if_neg h]
    congr 1
    omega
theorem ofInt_nat (a : Nat) (h : a < 18446744073709551616) : BitVec.ofInt 64 (a : Int) = BitVec.ofNat 64 a := BitVec.ofInt_natCast ..
theorem xor_i64_zero (a : Nat) (h : a < 9223372036854775808) : Go.bits .xor .i64 (a : Int) 0 = (a : Int) := by
  have hb : Go.bits .xor .i64 (a : Int) 0 = IntKind.i64.wrap ((BitVec.ofInt 64 (a : Int) ^^^ BitVec.ofInt 64 0).toNat : Int) := rfl
  rw [hb, wrapi, BitVec.toNat_xor, BitVec.ofInt_natCast, BitVec.toNat_ofNat, show (BitVec.ofInt 64 0).toNat = 0 from rfl, Nat.xor_zero, Nat.mod_eq_of_lt (by omega), w64 (by omega) (by omega)]
theorem xor_i64_ones (a : Nat) (h : a < 9223372036854775808) : Go.bits .xor .i64 (a : Int) (-1) = -1 - (a : Int) := by
  have hb : Go.bits .xor .i64 (a : Int) (-1) = IntKind.i64.wrap ((BitVec.ofInt 64 (a : Int) ^^^ BitVec.ofInt 64 (-1)).toNat : Int) := rfl
  rw [hb, wrapi, BitVec.toNat_xor, BitVec.ofInt_natCast, BitVec.toNat_ofNat, show (BitVec.ofInt 64 (-1)).toNat = 18446744073709551615 from rfl, Nat.mod_eq_of_lt (by omega), xor_ones _ (by omega)]
  unfold wrap64
  omega
theorem plain_fold (n : Int) (h1 : -9223372036854775808 ≤ n) (h2 : n ≤ 9223372036854775807) : cell_plain.f (foldZ n) = some n := by
  have hr := foldZ_rng n h1 h2
  unfold cell_plain.f
  rw [u64_and _ _ hr.1 hr.2 (by decide) (by decide), show ((1 : Int).toNat) = 1 from rfl, Nat.and_one_is_mod]
  unfold foldZ at *
  by_cases h : n < 0
  · rw [if_pos h] at *
    have e1 : ((-2 * n - 1).toNat % 2 : Nat) = 1 := by omega
    rw [e1, show wrap64 (-wrap64 ((1 : Nat) : Int)) = -1 from by unfold wrap64; omega, w64 (by omega) (by omega)]
    have e2 : (-2 * n - 1) / 2 = (((-n - 1).toNat : Nat) : Int) := by omega
    rw [e2, xor_i64_ones _ (by omega)]
    congr 1
    omega
  · rw [if_neg h] at *
    have e1 : ((2 * n).toNat % 2 : Nat) = 0 := by omega
    rw [e1, show wrap64 (-wrap64 ((0 : Nat) : Int)) = 0 from by unfold wrap64; omega, w64 (by omega) (by omega)]
    have e2 : (2 * n) / 2 = ((n.toNat : Nat) : Int) := by omega
    rw [e2, xor_i64_zero _ (by omega)]
    congr 1
    omega
theorem low_byte (n : Int) (h1 : -9223372036854775808 ≤ n) (h2 : n ≤ 9223372036854775807) : IntKind.u64.wrap (Go.bits .and .i64 n 255) = n % 256 := by
  have e : (BitVec.ofInt 64 n &&& BitVec.ofInt 64 255).toNat = (n % 256).toNat := by
    rw [BitVec.toNat_and, BitVec.toNat_ofInt, show (BitVec.ofInt 64 255).toNat = 2 ^ 8 - 1 from rfl, Nat.and_two_pow_sub_one_eq_mod]
    omega
  have hb : Go.bits .and .i64 n 255 = IntKind.i64.wrap ((BitVec.ofInt 64 n &&& BitVec.ofInt 64 255).toNat : Int) := rfl
  rw [hb, e, wrapi, w64 (by omega) (by omega), wrapu]
  omega
theorem okU1 {x : Int} (h : 0 ≤ x ∧ x < 18446744073709551616) : okU [x] = true := by simp [okU, h.1, h.2]
theorem okU2 {x y : Int} (h : 0 ≤ x ∧ x < 18446744073709551616) (h' : 0 ≤ y ∧ y < 18446744073709551616) : okU [x, y] = true := by simp [okU, h.1, h.2, h'.1, h'.2]
theorem num_eq (l us : List Int) (h : okB l = true) (hl : l.length ≤ 1000000000) (hu : okU us = true) (hn : us.length ≤ 2) : pack_Num.f l us = some (l ++ ofB (encNs (us.map Int.toNat))) := by
  have hle := encNs_le (us.map Int.toNat)
  rw [List.length_map] at hle
  exact if_pos ⟨h, hu, by omega⟩
theorem encNs_len (us : List Int) (hn : us.length ≤ 2) : (encNs (us.map Int.toNat)).length ≤ 18 := by
  have hle := encNs_le (us.map Int.toNat)
  rw [List.length_map] at hle
  omega
theorem encB_le (s : ByteArray) (hs : s.size ≤ 5000) : (encB (tb s)).length ≤ 5009 := by
  unfold encB
  rw [List.length_append, encN_length, tb_length]
  have := nb_le s.size
  omega
theorem text_eq1 (l : List Int) (s : ByteArray) (h : okB l = true) (hl : l.length ≤ 1000000000) (hs : s.size ≤ 5000) : pack_Text.f l [s] = some (l ++ ofB (encB (tb s))) := by
  have e : encTs [s] = encB (tb s) := by simp [encTs]
  have := encB_le s hs
  unfold pack_Text.f
  rw [e, if_pos ⟨h, by omega⟩]
theorem rd_col (l : List S39) (i : Nat) (h : i < l.length) : rd_T39 l (i : Int) = l[i] := by simp [rd_T39, List.getD, h]
theorem rd_cell (l : List S56) (i : Nat) (h : i < l.length) : rd_T56 l (i : Int) = l[i] := by simp [rd_T56, List.getD, h]
/-- A column, a cell, as bytes. -/
def colE (c : S39) : List UInt8 := encB (tb c.f0) ++ encN (c.f1 % 256).toNat
def cellE (c : S56) : List UInt8 := if c.f0 = 1 then encN 1 ++ encN (foldZ c.f1).toNat else encN 2 ++ encB (tb c.f2)
theorem ok_app {l : List Int} (h : okB l = true) (xs : List UInt8) : okB (l ++ ofB xs) = true := by rw [okB_app, h, okB_ofB]; rfl
theorem cols_ev (cols : List S39) (hl : cols.length ≤ 100) (hs : ∀ x ∈ cols, x.f0.size ≤ 5000) (hw : ∀ x ∈ cols, (Lit.int .i64 x.f1).wf = true) : ∀ (d i : Nat) (b : List Int), cols.length - i = d → i ≤ cols.length → okB b = true → b.length + d * 6000 ≤ 1000000000 →
    Ev (fun k => cell_PutCols.l0 k b cols (cols.length : Int) (i : Int)) (b ++ ofB ((cols.drop i).flatMap colE)) := by
  intro d
  induction d with
  | zero =>
    intro i b hd hi hb hm
    refine ev1 _ (fun k => by simp only [cell_PutCols.l0]; rfl) ?_
    simp only [if_neg (show ¬ (i : Int) < (cols.length : Int) by omega)]
    rw [List.drop_eq_nil_of_le (by omega)]
    simp only [List.flatMap_nil, ofB, List.map_nil, List.append_nil]
    exact Ev.now _
  | succ d ih =>
    intro i b hd hi hb hm
    have hlt : i < cols.length := by omega
    have hwi := wf64 (hw _ (List.getElem_mem hlt))
    have hsi := hs _ (List.getElem_mem hlt)
    have hle := encB_le cols[i].f0 hsi
    have t1 := text_eq1 b cols[i].f0 hb (by omega) hsi
    have u1 := num_eq (b ++ ofB (encB (tb cols[i].f0))) [cols[i].f1 % 256] (ok_app hb _) (by rw [List.length_append, ofB_length]; omega) (okU1 (by omega)) (by simp)
    have hnl := encNs_len [cols[i].f1 % 256] (by simp)
    have r1 := ih (i + 1) _ (by omega) (by omega) (ok_app (ok_app hb (encB (tb cols[i].f0))) (encNs ([cols[i].f1 % 256].map Int.toNat))) (by rw [List.length_append, List.length_append, ofB_length, ofB_length]; omega)
    have hw1 : wrap64 ((i : Int) + 1) = ((i + 1 : Nat) : Int) := by rw [w64 (by omega) (by omega)]; omega
    have e : b ++ ofB ((cols.drop i).flatMap colE) = (b ++ ofB (encB (tb cols[i].f0))) ++ ofB (encNs ([cols[i].f1 % 256].map Int.toNat)) ++ ofB ((cols.drop (i + 1)).flatMap colE) := by
      rw [List.drop_eq_getElem_cons hlt, List.flatMap_cons, ofB_app]
      simp [colE, encNs, ofB_app]
    rw [e]
    refine ev1 _ (fun k => by simp only [cell_PutCols.l0]; rfl) ?_
    simp only [if_pos (show (i : Int) < (cols.length : Int) by omega), if_pos (show (0 : Int) ≤ (i : Int) by omega), rd_col cols i hlt, low_byte _ hwi.1 hwi.2]
    refine bind1 t1 ?_
    refine bind1 u1 ?_
    simp only [hw1]
    exact r1
theorem wrap_len (n : Nat) (h : n ≤ 100) : IntKind.u64.wrap (n : Int) = (n : Int) := by rw [wrapu]; omega
theorem putCols_ev (cols : List S39) (hl : cols.length ≤ 100) (hs : ∀ x ∈ cols, x.f0.size ≤ 5000) (hw : ∀ x ∈ cols, (Lit.int .i64 x.f1).wf = true) :
    Ev (fun k => cell_PutCols.f k [] cols) (ofB (encN cols.length ++ cols.flatMap colE)) := by
  have u1 := num_eq [] [(cols.length : Int)] rfl (by simp) (okU1 (by omega)) (by simp)
  have hnl := encNs_len [(cols.length : Int)] (by simp)
  have r1 := cols_ev cols hl hs hw _ 0 _ rfl (Nat.zero_le _) (ok_app (l := []) rfl (encNs ([(cols.length : Int)].map Int.toNat))) (by rw [List.length_append, ofB_length, List.length_nil]; omega)
  have e : ofB (encN cols.length ++ cols.flatMap colE) = ([] ++ ofB (encNs ([(cols.length : Int)].map Int.toNat))) ++ ofB ((cols.drop 0).flatMap colE) := by simp [encNs, ofB_app]
  rw [e]
  unfold cell_PutCols.f
  simp only [wrap_len _ hl]
  exact bind1 u1 r1
theorem cellE_le (c : S56) (hs : c.f2.size ≤ 5000) : (cellE c).length ≤ 5100 := by
  unfold cellE
  have h1 := nb_le (foldZ c.f1).toNat
  have h2 := nb_le 1
  have h3 := nb_le 2
  have h4 := encB_le c.f2 hs
  split <;> rw [List.length_append, encN_length] <;> (try rw [encN_length]) <;> omega
theorem row_ev (l : List S56) (hl : l.length ≤ 100) (hs : ∀ x ∈ l, x.f2.size ≤ 5000) (hw : ∀ x ∈ l, (Lit.int .i64 x.f1).wf = true) : ∀ (d i : Nat) (b : List Int), l.length - i = d → i ≤ l.length → okB b = true → b.length + d * 6000 ≤ 1000000000 →
    Ev (fun k => cell_Put.l0 k b l (l.length : Int) (i : Int)) (b ++ ofB ((l.drop i).flatMap cellE)) := by
  intro d
  induction d with
  | zero =>
    intro i b hd hi hb hm
    refine ev1 _ (fun k => by simp only [cell_Put.l0]; rfl) ?_
    simp only [if_neg (show ¬ (i : Int) < (l.length : Int) by omega)]
    rw [List.drop_eq_nil_of_le (by omega)]
    simp only [List.flatMap_nil, ofB, List.map_nil, List.append_nil]
    exact Ev.now _
  | succ d ih =>
    intro i b hd hi hb hm
    have hlt : i < l.length := by omega
    have hwi := wf64 (hw _ (List.getElem_mem hlt))
    have hsi := hs _ (List.getElem_mem hlt)
    have hce := cellE_le l[i] hsi
    have hw1 : wrap64 ((i : Int) + 1) = ((i + 1 : Nat) : Int) := by rw [w64 (by omega) (by omega)]; omega
    have r1 := ih (i + 1) (b ++ ofB (cellE l[i])) (by omega) (by omega) (ok_app hb _) (by rw [List.length_append, ofB_length]; omega)
    have e : b ++ ofB ((l.drop i).flatMap cellE) = (b ++ ofB (cellE l[i])) ++ ofB ((l.drop (i + 1)).flatMap cellE) := by
      rw [List.drop_eq_getElem_cons hlt, List.flatMap_cons, ofB_app, List.append_assoc]
    rw [e]
    refine ev1 _ (fun k => by simp only [cell_Put.l0]; rfl) ?_
    by_cases hk : l[i].f0 = 1
    · have hr := foldZ_rng l[i].f1 hwi.1 hwi.2
      have u1 := num_eq b [1, foldZ l[i].f1] hb (by omega) (okU2 (by omega) hr) (by simp)
      have ee : encNs ([1, foldZ l[i].f1].map Int.toNat) = cellE l[i] := by unfold cellE; rw [if_pos hk]; simp [encNs]
      rw [ee] at u1
      simp only [if_pos (show (i : Int) < (l.length : Int) by omega), if_pos (show (0 : Int) ≤ (i : Int) by omega), rd_cell l i hlt, if_pos hk]
      refine bind1 (folded_eq _ hwi.1 hwi.2) ?_
      refine bind1 u1 ?_
      simp only [hw1]
      exact r1
    · have u1 := num_eq b [2] hb (by omega) (okU1 (by omega)) (by simp)
      have hnl := encNs_len [2] (by simp)
      have t1 := text_eq1 _ l[i].f2 (ok_app hb (encNs ([2].map Int.toNat))) (by rw [List.length_append, ofB_length]; omega) hsi
      have ee : (b ++ ofB (encNs ([2].map Int.toNat))) ++ ofB (encB (tb l[i].f2)) = b ++ ofB (cellE l[i]) := by unfold cellE; rw [if_neg hk]; simp [encNs, ofB_app]
      rw [ee] at t1
      simp only [if_pos (show (i : Int) < (l.length : Int) by omega), if_pos (show (0 : Int) ≤ (i : Int) by omega), rd_cell l i hlt, if_neg hk]
      refine bind1 u1 ?_
      refine bind1 t1 ?_
      simp only [hw1]
      exact r1
theorem put_ev (b : List Int) (since : Int) (l : List S56) (hb : okB b = true) (hbl : b.length ≤ 10000000) (h64 : 0 ≤ since ∧ since < 18446744073709551616) (hl : l.length ≤ 100) (hs : ∀ x ∈ l, x.f2.size ≤ 5000) (hw : ∀ x ∈ l, (Lit.int .i64 x.f1).wf = true) :
    Ev (fun k => cell_Put.f k b since l) (b ++ ofB (encN since.toNat ++ (encN l.length ++ l.flatMap cellE))) := by
  have u1 := num_eq b [since, (l.length : Int)] hb (by omega) (okU2 h64 (by omega)) (by simp)
  have hnl := encNs_len [since, (l.length : Int)] (by simp)
  have r1 := row_ev l hl hs hw _ 0 _ rfl (Nat.zero_le _) (ok_app hb (encNs ([since, (l.length : Int)].map Int.toNat))) (by rw [List.length_append, ofB_length]; omega)
  have e : b ++ ofB (encN since.toNat ++ (encN l.length ++ l.flatMap cellE)) = (b ++ ofB (encNs ([since, (l.length : Int)].map Int.toNat))) ++ ofB ((l.drop 0).flatMap cellE) := by simp [encNs, ofB_app]
  rw [e]
  unfold cell_Put.f
  simp only [wrap_len _ hl]
  exact bind1 u1 r1
theorem cutnum_eq (x : Nat) (most : Int) (h1 : most < 18446744073709551616) (hm : (x : Int) ≤ most) (r : List UInt8) : pack_Cut_Num.f (st (encN x ++ r)) false most = some ((x : Int), st r, false) := by
  unfold pack_Cut_Num.f
  rw [if_pos ⟨by omega, h1⟩, tb_st, cut_num x most.toNat (by omega) (by omega) r]
theorem cuttext_eq (s : ByteArray) (most : Int) (hs : (s.size : Int) ≤ most) (hm : most ≤ 9223372036854775807) (r : List UInt8) : pack_Cut_Text.f (st (encB (tb s) ++ r)) false most = some (s, st r, false) := by
  unfold pack_Cut_Text.f
  rw [if_pos hm, tb_st, cut_blob (tb s) r most (by rw [tb_length]; omega) (by rw [tb_length]; exact hs), st_tb]
theorem takeCols_loop (cols : List S39) (hl : cols.length ≤ 6) (hn : ∀ i (h : i < cols.length), cols[i].f0.size ≤ 16 ∧ (cols[i].f1 = 1 ∨ cols[i].f1 = 2)) (hmay : cell_May.f cols = some true) (r : List UInt8) : ∀ (d i : Nat), cols.length - i = d → i ≤ cols.length →
    Ev (fun k => cell_TakeCols.l0 k (cols.take i) (cols.length : Int) (i : Int) (st ((cols.drop i).flatMap colE ++ r)) false) (cols, st r, false) := by
  intro d
  induction d with
  | zero =>
    intro i hd hi
    rw [List.drop_eq_nil_of_le (by omega), List.take_of_length_le (by omega), List.flatMap_nil, List.nil_append]
    refine ev1 _ (fun k => by simp only [cell_TakeCols.l0]; rfl) ?_
    simp only [if_neg (show ¬ (i : Int) < (cols.length : Int) by omega)]
    refine bind1 (a := ((0 : Int), st r, false)) rfl ?_
    simp only [if_true]
    refine bind1 hmay ?_
    refine ev1 _ (fun k => by simp only [cell_TakeCols.j1]; rfl) ?_
    simp only [Bool.not_true, Bool.false_eq_true, if_false]
    refine bind1 (a := ((0 : Int), st r, false)) rfl ?_
    simp only [if_true]
    exact Ev.now _
  | succ d ih =>
    intro i hd hi
    have hlt : i < cols.length := by omega
    obtain ⟨h16, hk⟩ := hn i hlt
    have e : (cols.drop i).flatMap colE ++ r = encB (tb cols[i].f0) ++ (encN (cols[i].f1 % 256).toNat ++ ((cols.drop (i + 1)).flatMap colE ++ r)) := by
      rw [List.drop_eq_getElem_cons hlt, List.flatMap_cons]
      simp [colE]
    have t1 := cuttext_eq cols[i].f0 16 (by omega) (by decide) (encN (cols[i].f1 % 256).toNat ++ ((cols.drop (i + 1)).flatMap colE ++ r))
    have u1 := cutnum_eq (cols[i].f1 % 256).toNat 2 (by decide) (by omega) ((cols.drop (i + 1)).flatMap colE ++ r)
    have hw1 : IntKind.u64.wrap ((i : Int) + 1) = ((i + 1 : Nat) : Int) := by rw [wrapu]; omega
    have ec : cols.take i ++ [(⟨cols[i].f0, wrap64 (((cols[i].f1 % 256).toNat : Nat) : Int)⟩ : S39)] = cols.take (i + 1) := by
      rw [List.take_succ_eq_append_getElem hlt]
      have : wrap64 (((cols[i].f1 % 256).toNat : Nat) : Int) = cols[i].f1 := by rw [w64 (by omega) (by omega)]; omega
      rw [this]
    rw [e]
    refine ev1 _ (fun k => by simp only [cell_TakeCols.l0]; rfl) ?_
    simp only [if_pos (show (i : Int) < (cols.length : Int) by omega)]
    refine bind1 t1 ?_
    simp only
    refine bind1 u1 ?_
    simp only [if_pos (show (cols.take i).length < 5864062014805 by rw [List.length_take]; omega), hw1, ec]
    exact ih (i + 1) (by omega) (by omega)
theorem takeCols_ev (cols : List S39) (hl : cols.length ≤ 6) (hn : ∀ i (h : i < cols.length), cols[i].f0.size ≤ 16 ∧ (cols[i].f1 = 1 ∨ cols[i].f1 = 2)) (hmay : cell_May.f cols = some true) (r : List UInt8) :
    Ev (fun k => cell_TakeCols.f k (st (encN cols.length ++ (cols.flatMap colE ++ r))) false) (cols, st r, false) := by
  have u1 := cutnum_eq cols.length 6 (by decide) (by omega) (cols.flatMap colE ++ r)
  unfold cell_TakeCols.f
  refine bind1 u1 ?_
  simp only
  exact takeCols_loop cols hl hn hmay r _ 0 rfl (Nat.zero_le _)
theorem size_zero {s : ByteArray} (h : s.size = 0) : s = (⟨#[]⟩ : ByteArray) := by
  refine tb_inj ?_
  have : (tb s).length = 0 := by rw [tb_length]; exact h
  rw [List.eq_nil_of_length_eq_zero this]
  rfl
theorem wrong_zero {kd n : Int} {s : ByteArray} (h : wrongB kd n s = 0) : (kd = 1 ∧ s = (⟨#[]⟩ : ByteArray)) ∨ (kd = 2 ∧ n = 0 ∧ s.size ≤ 256) := by
  unfold wrongB at h
  by_cases h1 : kd = 2
  · rw [if_pos h1] at h
    by_cases h2 : n = 0
    · rw [if_pos h2] at h
      by_cases h3 : 256 < s.size
      · rw [if_pos h3] at h; omega
      · exact .inr ⟨h1, h2, by omega⟩
    · rw [if_neg h2] at h; omega
  · rw [if_neg h1] at h
    by_cases h2 : kd = 1
    · rw [if_pos h2] at h
      by_cases h3 : s.size = 0
      · exact .inl ⟨h2, size_zero h3⟩
      · rw [if_neg h3] at h; omega
    · rw [if_neg h2] at h; omega
theorem take_j2 (since : Int) (l : List S56) (i : Nat) (hlt : i < l.length) (hl : l.length ≤ 6) (x : ByteArray) (hw : wrongB l[i].f0 l[i].f1 l[i].f2 = 0) {R : Int × List S56 × ByteArray × Bool}
    (h : Ev (fun k => cell_Take.l0 k since (l.take (i + 1)) (l.length : Int) ((i + 1 : Nat) : Int) x false) R) : Ev (fun k => cell_Take.j2 k since (l.take i) (l.length : Int) (i : Int) x false l[i].f0 l[i].f1 l[i].f2) R := by
  have hw1 : IntKind.u64.wrap ((i : Int) + 1) = ((i + 1 : Nat) : Int) := by rw [wrapu]; omega
  refine ev1 _ (fun k => by simp only [cell_Take.j2]; rfl) ?_
  refine bind1 (wrong_some _ _ _) ?_
  simp only [if_pos hw, if_pos (show (l.take i).length < 4398046511104 by rw [List.length_take]; omega), hw1, List.take_append_getElem hlt]
  exact h
theorem take_loop (since : Int) (l : List S56) (hl : l.length ≤ 6) (hn : ∀ i (h : i < l.length), wrongB l[i].f0 l[i].f1 l[i].f2 = 0) (hw : ∀ x ∈ l, (Lit.int .i64 x.f1).wf = true) (r : List UInt8) : ∀ (d i : Nat), l.length - i = d → i ≤ l.length →
    Ev (fun k => cell_Take.l0 k since (l.take i) (l.length : Int) (i : Int) (st ((l.drop i).flatMap cellE ++ r)) false) (since, l, st r, false) := by
  intro d
  induction d with
  | zero =>
    intro i hd hi
    rw [List.drop_eq_nil_of_le (by omega), List.take_of_length_le (by omega), List.flatMap_nil, List.nil_append]
    refine ev1 _ (fun k => by simp only [cell_Take.l0]; rfl) ?_
    simp only [if_neg (show ¬ (i : Int) < (l.length : Int) by omega)]
    refine bind1 (a := ((0 : Int), st r, false)) rfl ?_
    simp only [if_true]
    exact Ev.now _
  | succ d ih =>
    intro i hd hi
    have hlt : i < l.length := by omega
    have hwi := wf64 (hw _ (List.getElem_mem hlt))
    have hj := fun x => take_j2 since l i hlt hl x (hn i hlt) (R := (since, l, st r, false))
    have hrest := ih (i + 1) (by omega) (by omega)
    rcases wrong_zero (hn i hlt) with ⟨h1, h2⟩ | ⟨h1, h2, h3⟩
    · have hr := foldZ_rng l[i].f1 hwi.1 hwi.2
      have e : (l.drop i).flatMap cellE ++ r = encN 1 ++ (encN (foldZ l[i].f1).toNat ++ ((l.drop (i + 1)).flatMap cellE ++ r)) := by
        rw [List.drop_eq_getElem_cons hlt, List.flatMap_cons]
        unfold cellE
        rw [if_pos h1]
        simp
      have u1 := cutnum_eq 1 2 (by decide) (by decide) (encN (foldZ l[i].f1).toNat ++ ((l.drop (i + 1)).flatMap cellE ++ r))
      have u2 := cutnum_eq (foldZ l[i].f1).toNat 18446744073709551615 (by decide) (by omega) ((l.drop (i + 1)).flatMap cellE ++ r)
      have p1 := plain_fold l[i].f1 hwi.1 hwi.2
      rw [show foldZ l[i].f1 = (((foldZ l[i].f1).toNat : Nat) : Int) by omega] at p1
      rw [e]
      refine ev1 _ (fun k => by simp only [cell_Take.l0]; rfl) ?_
      simp only [if_pos (show (i : Int) < (l.length : Int) by omega)]
      refine bind1 u1 ?_
      simp only [show wrap64 ((1 : Nat) : Int) = 1 from by unfold wrap64; omega, if_true]
      refine bind1 u2 ?_
      simp only
      refine bind1 p1 ?_
      have := hj _ hrest
      rw [h1, h2] at this
      exact this
    · have e : (l.drop i).flatMap cellE ++ r = encN 2 ++ (encB (tb l[i].f2) ++ ((l.drop (i + 1)).flatMap cellE ++ r)) := by
        rw [List.drop_eq_getElem_cons hlt, List.flatMap_cons]
        unfold cellE
        rw [if_neg (by omega)]
        simp
      have u1 := cutnum_eq 2 2 (by decide) (by decide) (encB (tb l[i].f2) ++ ((l.drop (i + 1)).flatMap cellE ++ r))
      have t1 := cuttext_eq l[i].f2 256 (by omega) (by decide) ((l.drop (i + 1)).flatMap cellE ++ r)
      rw [e]
      refine ev1 _ (fun k => by simp only [cell_Take.l0]; rfl) ?_
      simp only [if_pos (show (i : Int) < (l.length : Int) by omega)]
      refine bind1 u1 ?_
      simp only [show wrap64 ((2 : Nat) : Int) = 2 from by unfold wrap64; omega, if_neg (show ¬ (2 : Int) = 1 by decide)]
      refine bind1 t1 ?_
      simp only
      have := hj _ hrest
      rw [h1, h2] at this
      exact this
theorem take_ev (since : Int) (l : List S56) (h64 : 0 ≤ since ∧ since < 18446744073709551616) (h0 : 0 < l.length) (hl : l.length ≤ 6) (hn : ∀ i (h : i < l.length), wrongB l[i].f0 l[i].f1 l[i].f2 = 0) (hw : ∀ x ∈ l, (Lit.int .i64 x.f1).wf = true) (r : List UInt8) :
    Ev (fun k => cell_Take.f k (st (encN since.toNat ++ (encN l.length ++ (l.flatMap cellE ++ r)))) false) (since, l, st r, false) := by
  have u1 := cutnum_eq since.toNat 18446744073709551615 (by decide) (by omega) (encN l.length ++ (l.flatMap cellE ++ r))
  have u2 := cutnum_eq l.length 6 (by decide) (by omega) (l.flatMap cellE ++ r)
  rw [show ((since.toNat : Nat) : Int) = since by omega] at u1
  unfold cell_Take.f
  refine bind1 u1 ?_
  simp only
  refine bind1 u2 ?_
  simp only [if_neg (show ¬ (l.length : Int) = 0 by omega)]
  refine ev1 _ (fun k => by simp only [cell_Take.j0]; rfl) ?_
  exact take_loop since l hl hn hw r _ 0 rfl (Nat.zero_le _)
theorem fitsz_loop (cols : List S39) (l : List S56) (hl : l.length ≤ 100) (he : l.length = cols.length) : ∀ (d i : Nat), l.length - i = d → i ≤ l.length →
    ∃ r, Ev (fun k => cell_Fits.l0 k cols l (l.length : Int) (i : Int)) r ∧ (r = 0 → ∀ j (h : j < l.length), i ≤ j → wrongB l[j].f0 l[j].f1 l[j].f2 = 0) := by
  intro d
  induction d with
  | zero =>
    intro i hd hi
    refine ⟨0, ?_, fun _ j h h' => by omega⟩
    refine ev1 _ (fun k => by simp only [cell_Fits.l0]; rfl) ?_
    simp only [if_neg (show ¬ (i : Int) < (l.length : Int) by omega)]
    exact Ev.now _
  | succ d ih =>
    intro i hd hi
    have hlt : i < l.length := by omega
    have hw : wrap64 ((i : Int) + 1) = ((i + 1 : Nat) : Int) := by rw [w64 (by omega) (by omega)]; omega
    obtain ⟨r, h1, h2⟩ := ih (i + 1) (by omega) (by omega)
    by_cases hk : l[i].f0 = (rd_T39 cols (i : Int)).f1
    · by_cases hz : wrongB l[i].f0 l[i].f1 l[i].f2 = 0
      · refine ⟨r, ?_, fun hr j h h' => ?_⟩
        · refine ev1 _ (fun k => by simp only [cell_Fits.l0]; rfl) ?_
          simp only [if_pos (show (i : Int) < (l.length : Int) by omega), if_pos (show (0 : Int) ≤ (i : Int) by omega), if_pos (show (i : Int) < (cols.length : Int) by omega), rd_cell l i hlt, if_pos hk]
          refine bind1 (wrong_some _ _ _) ?_
          simp only [if_pos hz, hw]
          exact h1
        · rcases Nat.eq_or_lt_of_le h' with h3 | h3
          · subst h3; exact hz
          · exact h2 hr j h h3
      · refine ⟨wrongB l[i].f0 l[i].f1 l[i].f2, ?_, fun hr => absurd hr hz⟩
        refine ev1 _ (fun k => by simp only [cell_Fits.l0]; rfl) ?_
        simp only [if_pos (show (i : Int) < (l.length : Int) by omega), if_pos (show (0 : Int) ≤ (i : Int) by omega), if_pos (show (i : Int) < (cols.length : Int) by omega), rd_cell l i hlt, if_pos hk]
        refine bind1 (wrong_some _ _ _) ?_
        simp only [if_neg hz]
        exact Ev.now _
    · refine ⟨6, ?_, fun hr => by omega⟩
      refine ev1 _ (fun k => by simp only [cell_Fits.l0]; rfl) ?_
      simp only [if_pos (show (i : Int) < (l.length : Int) by omega), if_pos (show (0 : Int) ≤ (i : Int) by omega), if_pos (show (i : Int) < (cols.length : Int) by omega), rd_cell l i hlt, if_neg hk]
      exact Ev.now _
theorem fitsz (cols : List S39) (l : List S56) (hl : l.length ≤ 100) (hsz : ∀ x ∈ cols, x.f0.size ≤ 9223372036854775807) :
    ∃ r, Ev (fun k => cell_Fits.f k cols l) r ∧ (r = 0 → mayB cols = true ∧ l.length = cols.length ∧ ∀ j (h : j < l.length), wrongB l[j].f0 l[j].f1 l[j].f2 = 0) := by
  have o1 : Ev (fun k => cell_Fits.j0 k cols l true) 1 := by
    refine ev1 _ (fun k => by simp only [cell_Fits.j0]; rfl) ?_
    simp only [if_true]
    exact Ev.now _
  unfold cell_Fits.f
  cases hm : mayB cols with
  | false =>
    refine ⟨1, ?_, fun h => by omega⟩
    refine bind1 (cell_may_some cols hsz) ?_
    simp only [hm, Bool.false_eq_true, if_false]
    exact o1
  | true =>
    by_cases he : l.length = cols.length
    · obtain ⟨r, h1, h2⟩ := fitsz_loop cols l hl he _ 0 rfl (Nat.zero_le _)
      have hb : ((l.length : Int) != (cols.length : Int)) = false := by rw [he, bne_self_eq_false]
      refine ⟨r, ?_, fun hr => ⟨rfl, he, fun j h => h2 hr j h (Nat.zero_le _)⟩⟩
      refine bind1 (cell_may_some cols hsz) ?_
      simp only [hm, if_true, hb]
      refine ev1 _ (fun k => by simp only [cell_Fits.j0]; rfl) ?_
      simp only [Bool.false_eq_true, if_false]
      exact h1
    · have hb : ((l.length : Int) != (cols.length : Int)) = true := by rw [bne_iff_ne]; omega
      refine ⟨1, ?_, fun h => by omega⟩
      refine bind1 (cell_may_some cols hsz) ?_
      simp only [hm, if_true, hb]
      exact o1
theorem may_facts (cols : List S39) (h : mayB cols = true) : 0 < cols.length ∧ cols.length ≤ 6 ∧ ∀ i (h : i < cols.length), cols[i].f0.size ≤ 16 ∧ (cols[i].f1 = 1 ∨ cols[i].f1 = 2) := by
  unfold mayB at h
  simp only [Bool.and_eq_true, decide_eq_true_eq, List.all_eq_true, List.mem_range] at h
  refine ⟨h.2.1, h.2.2, fun i hi => ?_⟩
  have h1 := h.1 i hi
  unfold colB at h1
  rw [rd_col cols i hi] at h1
  simp only [Bool.and_eq_true, Bool.or_eq_true, decide_eq_true_eq] at h1
  refine ⟨?_, h1.2.1⟩
  have h2 := h1.1
  unfold nameB at h2
  simp only [Bool.and_eq_true, decide_eq_true_eq] at h2
  exact h2.2.2
theorem CellBack : incipitlaw11_CellBack.Pure := by
  intro cols since l hc hcx h64 hl hlx
  refine Ev.rounds (r := true) ?_
  unfold incipitlaw11_CellBack.f
  by_cases h : (cols.length : Int) > 100
  · simp only [if_pos h]; exact awake11_ev
  simp only [if_neg h]
  obtain ⟨b, h1, h2⟩ := wide_ev l
  refine Ev.bind h1 ?_
  cases b with
  | true => simp only [if_true]; exact awake11_ev
  | false =>
    simp only [Bool.false_eq_true, if_false]
    obtain ⟨h3, h4⟩ := h2 rfl
    obtain ⟨e, f1, f2⟩ := fitsz cols l h3 (fun x hx => (hcx x hx).1)
    refine Ev.bind f1 ?_
    by_cases he : e = 0
    · simp only [if_pos he]
      obtain ⟨g1, g2, g3⟩ := f2 he
      obtain ⟨m0, m1, m2⟩ := may_facts cols g1
      have hcw : ∀ x ∈ cols, (Lit.int .i64 x.f1).wf = true := fun x hx => (hcx x hx).2
      have hlw : ∀ x ∈ l, (Lit.int .i64 x.f1).wf = true := fun x hx => (hlx x hx).2.1
      have hcs : ∀ x ∈ cols, x.f0.size ≤ 5000 := fun x hx => by
        obtain ⟨j, hj, rfl⟩ := List.getElem_of_mem hx
        have := (m2 j hj).1
        omega
      have hls : ∀ x ∈ l, x.f2.size ≤ 5000 := fun x hx => by
        obtain ⟨j, hj, rfl⟩ := List.getElem_of_mem hx
        have := h4 j hj
        rwa [rd_cell l j hj] at this
      have hu : 0 ≤ since ∧ since < 18446744073709551616 := by
        have := h64
        simp [Lit.wf] at this
        have h0 : IntKind.u64.min = 0 := by decide
        have h1 : IntKind.u64.max = 18446744073709551615 := by decide
        omega
      have hcl : (encN cols.length ++ cols.flatMap colE).length ≤ 1000000 := by
        have hq : ∀ (z : List S39), (∀ x ∈ z, x.f0.size ≤ 5000) → (z.flatMap colE).length ≤ z.length * 6000 := by
          intro z
          induction z with
          | nil => intro _; simp
          | cons a t ih =>
            intro hz
            have h1 := ih (fun x hx => hz x (List.mem_cons_of_mem _ hx))
            have h2 := encB_le a.f0 (hz a (List.mem_cons_self ..))
            have h3 := nb_le (a.f1 % 256).toNat
            rw [List.flatMap_cons, List.length_append, List.length_cons]
            unfold colE at *
            rw [List.length_append, encN_length]
            omega
        have h1 := hq cols hcs
        have h2 := nb_le cols.length
        rw [List.length_append, encN_length]
        omega
      have hrl : (encN since.toNat ++ (encN l.length ++ l.flatMap cellE)).length ≤ 1000000 := by
        have hq : ∀ (z : List S56), (∀ x ∈ z, x.f2.size ≤ 5000) → (z.flatMap cellE).length ≤ z.length * 6000 := by
          intro z
          induction z with
          | nil => intro _; simp
          | cons a t ih =>
            intro hz
            have h1 := ih (fun x hx => hz x (List.mem_cons_of_mem _ hx))
            have h2 := cellE_le a (hz a (List.mem_cons_self ..))
            rw [List.flatMap_cons, List.length_append, List.length_cons]
            omega
        have h1 := hq l hls
        have h2 := nb_le l.length
        have h3 := nb_le since.toNat
        rw [List.length_append, List.length_append, encN_length, encN_length]
        omega
      refine Ev.bind (putCols_ev cols (by omega) hcs hcw) ?_
      refine Ev.bind (put_ev _ since l (okB_ofB _) (by rw [ofB_length]; omega) hu h3 hls hlw) ?_
      have hok : okB (ofB (encN cols.length ++ cols.flatMap colE) ++ ofB (encN since.toNat ++ (encN l.length ++ l.flatMap cellE))) = true ∧ (ofB (encN cols.length ++ cols.flatMap colE) ++ ofB (encN since.toNat ++ (encN l.length ++ l.flatMap cellE))).length ≤ 140737488355328 := by
        refine ⟨ok_app (okB_ofB _) _, ?_⟩
        rw [List.length_append, ofB_length, ofB_length]
        omega
      simp only [if_pos hok]
      have eb : toB (ofB (encN cols.length ++ cols.flatMap colE) ++ ofB (encN since.toNat ++ (encN l.length ++ l.flatMap cellE))) = encN cols.length ++ (cols.flatMap colE ++ (encN since.toNat ++ (encN l.length ++ (l.flatMap cellE ++ [])))) := by
        rw [← ofB_app, toB_ofB]
        simp
      simp only [eb]
      refine Ev.bind (takeCols_ev cols m1 m2 ((cell_may_some cols (fun x hx => (hcx x hx).1)).trans (by rw [g1])) _) ?_
      simp only
      refine Ev.bind (take_ev since l hu (by omega) (by omega) g3 hlw []) ?_
      simp only
      refine Ev.bind (sameCols_self cols (by omega)) ?_
      simp only [true_and, if_true]
      refine Ev.bind (same_self l (by omega)) ?_
      simp only [if_pos (show true = true ∧ (st []).size = 0 ∧ false = false from ⟨rfl, rfl, rfl⟩)]
      exact awake11_ev
    · simp only [if_neg he]; exact awake11_ev
end Go.Proofs.YtpgcepfecmkkaaaDoor.Pure
