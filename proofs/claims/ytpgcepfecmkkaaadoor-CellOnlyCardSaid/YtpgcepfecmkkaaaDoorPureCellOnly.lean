/-
  CellOnly: the plain law.
-/
import Derived.Test.YtpgcepfecmkkaaaDoorZAx
import Derived.Test.YtpgcepfecmkkaaaDoorCutP
import Derived.Laws.BitsAllLaws
set_option linter.unusedVariables false
set_option linter.unusedSimpArgs false
namespace Go.Proofs.YtpgcepfecmkkaaaDoor.Ref
open Go.RowKit Go.Proofs.YtpgcepfecmkkaaaDoor Go.Proofs.YtpgcepfecmkkaaaDoorZ.ZA Go.Proofs.YtpgcepfecmkkaaaDoorW.PrintWords

theorem w64 {x : Int} (h1 : -9223372036854775808 ≤ x) (h2 : x ≤ 9223372036854775807) : wrap64 x = x := by unfold wrap64; omega
theorem wf64 {x : Int} (h : (Lit.int .i64 x).wf = true) : -9223372036854775808 ≤ x ∧ x ≤ 9223372036854775807 := by
  simp only [Lit.wf, Bool.and_eq_true, decide_eq_true_eq] at h
  exact h
theorem tb_inj {s t : ByteArray} (h : tb s = tb t) : s = t := by rw [← st_tb s, ← st_tb t, h]

/-! ### a code point's bytes -/
/-- A loop's round. -/
theorem ev1 {α : Type} {g : Nat → Option α} {r : α} (f : Nat → Option α) (h : ∀ k, g (k + 1) = f k) (k : Ev f r) : Ev g r := Ev.step h k
theorem bind1 {α β : Type} {x : Option α} {a : α} {f : Nat → α → Option β} {r : β} (h : x = some a) (k : Ev (fun n => f n a) r) : Ev (fun n => x.bind (f n)) r := by
  rw [h]; exact k
end Go.Proofs.YtpgcepfecmkkaaaDoor.Ref
set_option linter.unusedVariables false
set_option linter.unusedSimpArgs false
namespace Go.Proofs.YtpgcepfecmkkaaaDoor.Ref
open Go.RowKit Go.Proofs.YtpgcepfecmkkaaaDoor Go.Proofs.YtpgcepfecmkkaaaDoorZ.ZA Go.Proofs.YtpgcepfecmkkaaaDoorW.PrintWords

theorem fault_some (s : ByteArray) (hs : s.size ≤ 140737488351232) : utf_Fault.f s = some (faultL (tb s) : Int) := by
  unfold utf_Fault.f
  rw [if_pos (by omega), faultB_eq]
theorem may_some (s : ByteArray) (hs : s.size ≤ 140737488351232) : utf_May.f s = some (decide (faultL (tb s) = s.size)) := by
  unfold utf_May.f
  rw [fault_some s hs]
  simp only [Option.bind_some, Option.some.injEq]
  rw [Bool.eq_iff_iff]; simp; omega
end Go.Proofs.YtpgcepfecmkkaaaDoor.Ref
set_option linter.unusedVariables false
set_option linter.unusedSimpArgs false
namespace Go.Proofs.YtpgcepfecmkkaaaDoor.Ref
open Go.RowKit Go.Proofs.YtpgcepfecmkkaaaDoor Go.Proofs.YtpgcepfecmkkaaaDoorZ.ZA Go.Proofs.YtpgcepfecmkkaaaDoorW.PrintWords

/-! ### columns -/
theorem cell_may_some (l : List S39) (hsz : ∀ x ∈ l, x.f0.size ≤ 9223372036854775807) : cell_May.f l = some (mayB l) := by unfold cell_May.f; rw [if_pos hsz]
end Go.Proofs.YtpgcepfecmkkaaaDoor.Ref
set_option linter.unusedVariables false
set_option linter.unusedSimpArgs false
namespace Go.Proofs.YtpgcepfecmkkaaaDoor.Ref
open Go.RowKit Go.Proofs.YtpgcepfecmkkaaaDoor Go.Proofs.YtpgcepfecmkkaaaDoorZ.ZA Go.Proofs.YtpgcepfecmkkaaaDoorW.PrintWords

/-- What is wrong with a cell. -/
def wrongB (kd n : Int) (s : ByteArray) : Int := if kd = 2 then (if n = 0 then (if 256 < s.size then 3 else if faultL (tb s) = s.size then 0 else 8) else 1) else if kd = 1 then (if s.size = 0 then 0 else 1) else 6
theorem empty_iff (s : ByteArray) : s.toList = ([] : List UInt8) ↔ s.size = 0 := by
  have e : s.toList = tb s := Lib.toList_data s
  rw [e, ← tb_length]
  constructor
  · intro h; rw [h]; rfl
  · intro h; exact List.eq_nil_of_length_eq_zero h
theorem wrong_some (kd n : Int) (s : ByteArray) : cell_wrong.f kd n s = some (wrongB kd n s) := by
  unfold cell_wrong.f wrongB
  by_cases h1 : kd = 2
  · rw [if_pos h1, if_pos h1]
    by_cases h2 : n = 0
    · rw [if_pos h2, if_pos h2]
      by_cases h3 : 256 < s.size
      · rw [if_pos (show (s.size : Int) > 256 by omega), if_pos h3]
      · rw [if_neg (show ¬ (s.size : Int) > 256 by omega), if_neg h3, may_some s (by omega), Option.bind_some]
        by_cases h4 : faultL (tb s) = s.size
        · rw [if_pos (decide_eq_true h4), if_pos h4]
        · rw [if_neg (by rw [decide_eq_false h4]; simp), if_neg h4]
    · rw [if_neg h2, if_neg h2]
  · rw [if_neg h1, if_neg h1]
    by_cases h2 : kd = 1
    · rw [if_pos h2, if_pos h2]
      by_cases h3 : s.size = 0
      · rw [if_pos ((empty_iff s).2 h3), if_pos h3]
      · rw [if_neg (fun h => h3 ((empty_iff s).1 h)), if_neg h3]
    · rw [if_neg h2, if_neg h2]
end Go.Proofs.YtpgcepfecmkkaaaDoor.Ref
set_option linter.unusedVariables false
set_option linter.unusedSimpArgs false
namespace Go.Proofs.YtpgcepfecmkkaaaDoor.Ref
open Go.RowKit Go.Proofs.YtpgcepfecmkkaaaDoor Go.Proofs.YtpgcepfecmkkaaaDoorZ.ZA Go.Proofs.YtpgcepfecmkkaaaDoorW.PrintWords
set_option maxRecDepth 100000 in
theorem awake11_ev : Ev (fun k => incipitlaw11_awake.f k) true := Ev.of incipitlaw11_awake.mono (k := 400) (by decide +kernel)
end Go.Proofs.YtpgcepfecmkkaaaDoor.Ref
set_option linter.unusedVariables false
set_option linter.unusedSimpArgs false
namespace Go.Proofs.YtpgcepfecmkkaaaDoor.Pure
open Go.RowKit Go.Proofs.YtpgcepfecmkkaaaDoor Go.Proofs.YtpgcepfecmkkaaaDoor.Ref Go.Proofs.YtpgcepfecmkkaaaDoorZ.ZA Go.Proofs.YtpgcepfecmkkaaaDoorW.PrintWords
theorem xor_ones (a : Nat) (h : a < 18446744073709551616) : a ^^^ 18446744073709551615 = 18446744073709551615 - a := by
  have h1 : (BitVec.ofNat 64 a ^^^ BitVec.allOnes 64) = ~~~(BitVec.ofNat 64 a) := BitVec.xor_allOnes
  have h2 := congrArg BitVec.toNat h1
  rw [BitVec.toNat_xor, BitVec.toNat_not, BitVec.toNat_ofNat, BitVec.toNat_allOnes, Nat.mod_eq_of_lt (by omega : a < 2 ^ 64)] at h2
  exact h2
theorem wrapu (n : Int) : IntKind.u64.wrap n = n % 18446744073709551616 := by simp [IntKind.wrap, IntKind.bits, IntKind.signed]
theorem wrapi (n : Int) : IntKind.i64.wrap n = wrap64 n := by unfold Go.RowKit.wrap64; exact IntKind.wrap_i64 _
/-- A number without its sign. -/
def foldZ (n : Int) : Int := if n < 0 then -2 * n - 1 else 2 * n
theorem foldZ_rng (n : Int) (h1 : -9223372036854775808 ≤ n) (h2 : n ≤ 9223372036854775807) : 0 ≤ foldZ n ∧ foldZ n < 18446744073709551616 := by
  unfold foldZ; split <;> omega
theorem folded_eq (n : Int) (h1 : -9223372036854775808 ≤ n) (h2 : n ≤ 9223372036854775807) : cell_folded.f n = some (foldZ n) := by
  unfold cell_folded.f foldZ
  by_cases h : n < 0
  · have e1 : n / 9223372036854775808 = -1 := by omega
    have e2 : IntKind.u64.wrap (IntKind.u64.wrap n * 2) = 2 * n + 18446744073709551616 := by rw [wrapu, wrapu]; omega
    rw [e1, e2, show IntKind.u64.wrap (-1) = 18446744073709551615 from rfl, u64_xor _ _ (by omega) (by omega) (by decide) (by decide), show ((18446744073709551615 : Int).toNat) = 18446744073709551615 from rfl, xor_ones _ (by omega), if_pos h]
    congr 1
    omega
  · have e1 : n / 9223372036854775808 = 0 := by omega
    have e2 : IntKind.u64.wrap (IntKind.u64.wrap n * 2) = 2 * n := by rw [wrapu, wrapu]; omega
    rw [e1, e2, show IntKind.u64.wrap 0 = 0 from rfl, u64_xor _ _ (by omega) (by omega) (by decide) (by decide), show ((0 : Int).toNat) = 0 from rfl, Nat.xor_zero, if_neg h]
    congr 1
    omega
theorem xor_i64_zero (a : Nat) (h : a < 9223372036854775808) : Go.bits .xor .i64 (a : Int) 0 = (a : Int) := by
  have hb : Go.bits .xor .i64 (a : Int) 0 = IntKind.i64.wrap ((BitVec.ofInt 64 (a : Int) ^^^ BitVec.ofInt 64 0).toNat : Int) := rfl
  rw [hb, wrapi, BitVec.toNat_xor, BitVec.ofInt_natCast, BitVec.toNat_ofNat, show (BitVec.ofInt 64 0).toNat = 0 from rfl, Nat.xor_zero, Nat.mod_eq_of_lt (by omega), w64 (by omega) (by omega)]
theorem xor_i64_ones (a : Nat) (h : a < 9223372036854775808) : Go.bits .xor .i64 (a : Int) (-1) = -1 - (a : Int) := by
  have hb : Go.bits .xor .i64 (a : Int) (-1) = IntKind.i64.wrap ((BitVec.ofInt 64 (a : Int) ^^^ BitVec.ofInt 64 (-1)).toNat : Int) := rfl
  rw [hb, wrapi, BitVec.toNat_xor, BitVec.ofInt_natCast, BitVec.toNat_ofNat, show (BitVec.ofInt 64 (-1)).toNat = 18446744073709551615 from rfl, Nat.mod_eq_of_lt (by omega), xor_ones _ (by omega)]
  unfold wrap64
  omega
theorem plain_fold (n : Int) (h1 : -9223372036854775808 ≤ n) (h2 : n ≤ 9223372036854775807) : cell_plain.f (foldZ n) = some n := by
  have hr := foldZ_rng n h1 h2
  unfold cell_plain.f
  rw [u64_and _ _ hr.1 hr.2 (by decide) (by decide), show ((1 : Int).toNat) = 1 from rfl, Nat.and_one_is_mod]
  unfold foldZ at *
  by_cases h : n < 0
  · rw [if_pos h] at *
    have e1 : ((-2 * n - 1).toNat % 2 : Nat) = 1 := by omega
    rw [e1, show wrap64 (-wrap64 ((1 : Nat) : Int)) = -1 from by unfold wrap64; omega, w64 (by omega) (by omega)]
    have e2 : (-2 * n - 1) / 2 = (((-n - 1).toNat : Nat) : Int) := by omega
    rw [e2, xor_i64_ones _ (by omega)]
    congr 1
    omega
  · rw [if_neg h] at *
    have e1 : ((2 * n).toNat % 2 : Nat) = 0 := by omega
    rw [e1, show wrap64 (-wrap64 ((0 : Nat) : Int)) = 0 from by unfold wrap64; omega, w64 (by omega) (by omega)]
    have e2 : (2 * n) / 2 = ((n.toNat : Nat) : Int) := by omega
    rw [e2, xor_i64_zero _ (by omega)]
    congr 1
    omega
theorem low_byte (n : Int) (h1 : -9223372036854775808 ≤ n) (h2 : n ≤ 9223372036854775807) : IntKind.u64.wrap (Go.bits .and .i64 n 255) = n % 256 := by
  have e : (BitVec.ofInt 64 n &&& BitVec.ofInt 64 255).toNat = (n % 256).toNat := by
    rw [BitVec.toNat_and, BitVec.toNat_ofInt, show (BitVec.ofInt 64 255).toNat = 2 ^ 8 - 1 from rfl, Nat.and_two_pow_sub_one_eq_mod]
    omega
  have hb : Go.bits .and .i64 n 255 = IntKind.i64.wrap ((BitVec.ofInt 64 n &&& BitVec.ofInt 64 255).toNat : Int) := rfl
  rw [hb, e, wrapi, w64 (by omega) (by omega), wrapu]
  omega
theorem okU1 {x : Int} (h : 0 ≤ x ∧ x < 18446744073709551616) : okU [x] = true := by simp [okU, h.1, h.2]
theorem okU2 {x y : Int} (h : 0 ≤ x ∧ x < 18446744073709551616) (h' : 0 ≤ y ∧ y < 18446744073709551616) : okU [x, y] = true := by simp [okU, h.1, h.2, h'.1, h'.2]
theorem num_eq (l us : List Int) (h : okB l = true) (hl : l.length ≤ 1000000000) (hu : okU us = true) (hn : us.length ≤ 2) : pack_Num.f l us = some (l ++ ofB (encNs (us.map Int.toNat))) := by
  have hle := encNs_le (us.map Int.toNat)
  rw [List.length_map] at hle
  exact if_pos ⟨h, hu, by omega⟩
theorem encNs_len (us : List Int) (hn : us.length ≤ 2) : (encNs (us.map Int.toNat)).length ≤ 18 := by
  have hle := encNs_le (us.map Int.toNat)
  rw [List.length_map] at hle
  omega
theorem encB_le (s : ByteArray) (hs : s.size ≤ 5000) : (encB (tb s)).length ≤ 5009 := by
  unfold encB
  rw [List.length_append, encN_length, tb_length]
  have := nb_le s.size
  omega
theorem text_eq1 (l : List Int) (s : ByteArray) (h : okB l = true) (hl : l.length ≤ 1000000000) (hs : s.size ≤ 5000) : pack_Text.f l [s] = some (l ++ ofB (encB (tb s))) := by
  have e : encTs [s] = encB (tb s) := by simp [encTs]
  have := encB_le s hs
  unfold pack_Text.f
  rw [e, if_pos ⟨h, by omega⟩]
theorem rd_col (l : List S39) (i : Nat) (h : i < l.length) : rd_T39 l (i : Int) = l[i] := by simp [rd_T39, List.getD, h]
theorem rd_cell (l : List S56) (i : Nat) (h : i < l.length) : rd_T56 l (i : Int) = l[i] := by simp [rd_T56, List.getD, h]
/-- A column, a cell, as bytes. -/
def colE (c : S39) : List UInt8 := encB (tb c.f0) ++ encN (c.f1 % 256).toNat
def cellE (c : S56) : List UInt8 := if c.f0 = 1 then encN 1 ++ encN (foldZ c.f1).toNat else encN 2 ++ encB (tb c.f2)
theorem ok_app {l : List Int} (h : okB l = true) (xs : List UInt8) : okB (l ++ ofB xs) = true := by rw [okB_app, h, okB_ofB]; rfl
theorem cols_ev (cols : List S39) (hl : cols.length ≤ 100) (hs : ∀ x ∈ cols, x.f0.size ≤ 5000) (hw : ∀ x ∈ cols, (Lit.int .i64 x.f1).wf = true) : ∀ (d i : Nat) (b : List Int), cols.length - i = d → i ≤ cols.length → okB b = true → b.length + d * 6000 ≤ 1000000000 →
    Ev (fun k => cell_PutCols.l0 k b cols (cols.length : Int) (i : Int)) (b ++ ofB ((cols.drop i).flatMap colE)) := by
  intro d
  induction d with
  | zero =>
    intro i b hd hi hb hm
    refine ev1 _ (fun k => by simp only [cell_PutCols.l0]; rfl) ?_
    simp only [if_neg (show ¬ (i : Int) < (cols.length : Int) by omega)]
    rw [List.drop_eq_nil_of_le (by omega)]
    simp only [List.flatMap_nil, ofB, List.map_nil, List.append_nil]
    exact Ev.now _
  | succ d ih =>
    intro i b hd hi hb hm
    have hlt : i < cols.length := by omega
    have hwi := wf64 (hw _ (List.getElem_mem hlt))
    have hsi := hs _ (List.getElem_mem hlt)
    have hle := encB_le cols[i].f0 hsi
    have t1 := text_eq1 b cols[i].f0 hb (by omega) hsi
    have u1 := num_eq (b ++ ofB (encB (tb cols[i].f0))) [cols[i].f1 % 256] (ok_app hb _) (by rw [List.length_append, ofB_length]; omega) (okU1 (by omega)) (by simp)
    have hnl := encNs_len [cols[i].f1 % 256] (by simp)
    have r1 := ih (i + 1) _ (by omega) (by omega) (ok_app (ok_app hb (encB (tb cols[i].f0))) (encNs ([cols[i].f1 % 256].map Int.toNat))) (by rw [List.length_append, List.length_append, ofB_length, ofB_length]; omega)
    have hw1 : wrap64 ((i : Int) + 1) = ((i + 1 : Nat) : Int) := by rw [w64 (by omega) (by omega)]; omega
    have e : b ++ ofB ((cols.drop i).flatMap colE) = (b ++ ofB (encB (tb cols[i].f0))) ++ ofB (encNs ([cols[i].f1 % 256].map Int.toNat)) ++ ofB ((cols.drop (i + 1)).flatMap colE) := by
      rw [List.drop_eq_getElem_cons hlt, List.flatMap_cons, ofB_app]
      simp [colE, encNs, ofB_app]
    rw [e]
    refine ev1 _ (fun k => by simp only [cell_PutCols.l0]; rfl) ?_
    simp only [if_pos (show (i : Int) < (cols.length : Int) by omega), if_pos (show (0 : Int) ≤ (i : Int) by omega), rd_col cols i hlt, low_byte _ hwi.1 hwi.2]
    refine bind1 t1 ?_
    refine bind1 u1 ?_
    simp only [hw1]
    exact r1
theorem wrap_len (n : Nat) (h : n ≤ 100) : IntKind.u64.wrap (n : Int) = (n : Int) := by rw [wrapu]; omega
theorem putCols_ev (cols : List S39) (hl : cols.length ≤ 100) (hs : ∀ x ∈ cols, x.f0.size ≤ 5000) (hw : ∀ x ∈ cols, (Lit.int .i64 x.f1).wf = true) :
    Ev (fun k => cell_PutCols.f k [] cols) (ofB (encN cols.length ++ cols.flatMap colE)) := by
  have u1 := num_eq [] [(cols.length : Int)] rfl (by simp) (okU1 (by omega)) (by simp)
  have hnl := encNs_len [(cols.length : Int)] (by simp)
  have r1 := cols_ev cols hl hs hw _ 0 _ rfl (Nat.zero_le _) (ok_app (l := []) rfl (encNs ([(cols.length : Int)].map Int.toNat))) (by rw [List.length_append, ofB_length, List.length_nil]; omega)
  have e : ofB (encN cols.length ++ cols.flatMap colE) = ([] ++ ofB (encNs ([(cols.length : Int)].map Int.toNat))) ++ ofB ((cols.drop 0).flatMap colE) := by simp [encNs, ofB_app]
  rw [e]
  unfold cell_PutCols.f
  simp only [wrap_len _ hl]
  exact bind1 u1 r1
theorem cellE_le (c : S56) (hs : c.f2.size ≤ 5000) : (cellE c).length ≤ 5100 := by
  unfold cellE
  have h1 := nb_le (foldZ c.f1).toNat
  have h2 := nb_le 1
  have h3 := nb_le 2
  have h4 := encB_le c.f2 hs
  split <;> rw [List.length_append, encN_length] <;> (try rw [encN_length]) <;> omega
theorem row_ev (l : List S56) (hl : l.length ≤ 100) (hs : ∀ x ∈ l, x.f2.size ≤ 5000) (hw : ∀ x ∈ l, (Lit.int .i64 x.f1).wf = true) : ∀ (d i : Nat) (b : List Int), l.length - i = d → i ≤ l.length → okB b = true → b.length + d * 6000 ≤ 1000000000 →
    Ev (fun k => cell_Put.l0 k b l (l.length : Int) (i : Int)) (b ++ ofB ((l.drop i).flatMap cellE)) := by
  intro d
  induction d with
  | zero =>
    intro i b hd hi hb hm
    refine ev1 _ (fun k => by simp only [cell_Put.l0]; rfl) ?_
    simp only [if_neg (show ¬ (i : Int) < (l.length : Int) by omega)]
    rw [List.drop_eq_nil_of_le (by omega)]
    simp only [List.flatMap_nil, ofB, List.map_nil, List.append_nil]
    exact Ev.now _
  | succ d ih =>
    intro i b hd hi hb hm
    have hlt : i < l.length := by omega
    have hwi := wf64 (hw _ (List.getElem_mem hlt))
    have hsi := hs _ (List.getElem_mem hlt)
    have hce := cellE_le l[i] hsi
    have hw1 : wrap64 ((i : Int) + 1) = ((i + 1 : Nat) : Int) := by rw [w64 (by omega) (by omega)]; omega
    have r1 := ih (i + 1) (b ++ ofB (cellE l[i])) (by omega) (by omega) (ok_app hb _) (by rw [List.length_append, ofB_length]; omega)
    have e : b ++ ofB ((l.drop i).flatMap cellE) = (b ++ ofB (cellE l[i])) ++ ofB ((l.drop (i + 1)).flatMap cellE) := by
      rw [List.drop_eq_getElem_cons hlt, List.flatMap_cons, ofB_app, List.append_assoc]
    rw [e]
    refine ev1 _ (fun k => by simp only [cell_Put.l0]; rfl) ?_
    by_cases hk : l[i].f0 = 1
    · have hr := foldZ_rng l[i].f1 hwi.1 hwi.2
      have u1 := num_eq b [1, foldZ l[i].f1] hb (by omega) (okU2 (by omega) hr) (by simp)
      have ee : encNs ([1, foldZ l[i].f1].map Int.toNat) = cellE l[i] := by unfold cellE; rw [if_pos hk]; simp [encNs]
      rw [ee] at u1
      simp only [if_pos (show (i : Int) < (l.length : Int) by omega), if_pos (show (0 : Int) ≤ (i : Int) by omega), rd_cell l i hlt, if_pos hk]
      refine bind1 (folded_eq _ hwi.1 hwi.2) ?_
      refine bind1 u1 ?_
      simp only [hw1]
      exact r1
    · have u1 := num_eq b [2] hb (by omega) (okU1 (by omega)) (by simp)
      have hnl := encNs_len [2] (by simp)
      have t1 := text_eq1 _ l[i].f2 (ok_app hb (encNs ([2].map Int.toNat))) (by rw [List.length_append, ofB_length]; omega) hsi
      have ee : (b ++ ofB (encNs ([2].map Int.toNat))) ++ ofB (encB (tb l[i].f2)) = b ++ ofB (cellE l[i]) := by unfold cellE; rw [if_neg hk]; simp [encNs, ofB_app]
      rw [ee] at t1
      simp only [if_pos (show (i : Int) < (l.length : Int) by omega), if_pos (show (0 : Int) ≤ (i : Int) by omega), rd_cell l i hlt, if_neg hk]
      refine bind1 u1 ?_
      refine bind1 t1 ?_
      simp only [hw1]
      exact r1
theorem put_ev (b : List Int) (since : Int) (l : List S56) (hb : okB b = true) (hbl : b.length ≤ 10000000) (h64 : 0 ≤ since ∧ since < 18446744073709551616) (hl : l.length ≤ 100) (hs : ∀ x ∈ l, x.f2.size ≤ 5000) (hw : ∀ x ∈ l, (Lit.int .i64 x.f1).wf = true) :
    Ev (fun k => cell_Put.f k b since l) (b ++ ofB (encN since.toNat ++ (encN l.length ++ l.flatMap cellE))) := by
  have u1 := num_eq b [since, (l.length : Int)] hb (by omega) (okU2 h64 (by omega)) (by simp)
  have hnl := encNs_len [since, (l.length : Int)] (by simp)
  have r1 := row_ev l hl hs hw _ 0 _ rfl (Nat.zero_le _) (ok_app hb (encNs ([since, (l.length : Int)].map Int.toNat))) (by rw [List.length_append, ofB_length]; omega)
  have e : b ++ ofB (encN since.toNat ++ (encN l.length ++ l.flatMap cellE)) = (b ++ ofB (encNs ([since, (l.length : Int)].map Int.toNat))) ++ ofB ((l.drop 0).flatMap cellE) := by simp [encNs, ofB_app]
  rw [e]
  unfold cell_Put.f
  simp only [wrap_len _ hl]
  exact bind1 u1 r1
theorem size_zero {s : ByteArray} (h : s.size = 0) : s = (⟨#[]⟩ : ByteArray) := by
  refine tb_inj ?_
  have : (tb s).length = 0 := by rw [tb_length]; exact h
  rw [List.eq_nil_of_length_eq_zero this]
  rfl
theorem wrong_zero {kd n : Int} {s : ByteArray} (h : wrongB kd n s = 0) : (kd = 1 ∧ s = (⟨#[]⟩ : ByteArray)) ∨ (kd = 2 ∧ n = 0 ∧ s.size ≤ 256) := by
  unfold wrongB at h
  by_cases h1 : kd = 2
  · rw [if_pos h1] at h
    by_cases h2 : n = 0
    · rw [if_pos h2] at h
      by_cases h3 : 256 < s.size
      · rw [if_pos h3] at h; omega
      · exact .inr ⟨h1, h2, by omega⟩
    · rw [if_neg h2] at h; omega
  · rw [if_neg h1] at h
    by_cases h2 : kd = 1
    · rw [if_pos h2] at h
      by_cases h3 : s.size = 0
      · exact .inl ⟨h2, size_zero h3⟩
      · rw [if_neg h3] at h; omega
    · rw [if_neg h2] at h; omega
theorem may_facts (cols : List S39) (h : mayB cols = true) : 0 < cols.length ∧ cols.length ≤ 6 ∧ ∀ i (h : i < cols.length), cols[i].f0.size ≤ 16 ∧ (cols[i].f1 = 1 ∨ cols[i].f1 = 2) := by
  unfold mayB at h
  simp only [Bool.and_eq_true, decide_eq_true_eq, List.all_eq_true, List.mem_range] at h
  refine ⟨h.2.1, h.2.2, fun i hi => ?_⟩
  have h1 := h.1 i hi
  unfold colB at h1
  rw [rd_col cols i hi] at h1
  simp only [Bool.and_eq_true, Bool.or_eq_true, decide_eq_true_eq] at h1
  refine ⟨?_, h1.2.1⟩
  have h2 := h1.1
  unfold nameB at h2
  simp only [Bool.and_eq_true, decide_eq_true_eq] at h2
  exact h2.2.2
end Go.Proofs.YtpgcepfecmkkaaaDoor.Pure
set_option linter.unusedVariables false
set_option linter.unusedSimpArgs false
namespace Go.Proofs.YtpgcepfecmkkaaaDoor.Pure
open Go.RowKit Go.Proofs.YtpgcepfecmkkaaaDoor Go.Proofs.YtpgcepfecmkkaaaDoor.Ref Go.Proofs.YtpgcepfecmkkaaaDoorZ.ZA Go.Proofs.YtpgcepfecmkkaaaDoorW.PrintWords
theorem num_un (most : Nat) (xs : List UInt8) (bad : Bool) : ∃ N xs' bad', numS most xs bad = (N, xs', bad') ∧ N ≤ most ∧ (bad' = false → bad = false ∧ xs = encN N ++ xs' ∧ N < 18446744073709551616) := by
  unfold numS
  cases hp : peekS xs bad with
  | none => exact ⟨0, xs, true, rfl, Nat.zero_le _, fun h => by cases h⟩
  | some z =>
    obtain ⟨x, s⟩ := z
    simp only
    by_cases hm : x ≤ most
    · rw [if_pos hm]
      refine ⟨x, xs.drop s, false, rfl, hm, fun _ => ?_⟩
      have hf := peek_facts hp
      have hb : bad = false := hf.1
      subst hb
      have h1 : first xs = some (x, s) := by simpa [peekS] using hp
      have h2 := first_enc h1
      exact ⟨rfl, by rw [← h2.1, List.take_append_drop], hf.2.2.2.2⟩
    · rw [if_neg hm]
      exact ⟨0, xs, true, rfl, Nat.zero_le _, fun h => by cases h⟩
theorem blob_un (most : Int) (h0 : 0 ≤ most) (xs : List UInt8) (bad : Bool) : ∃ D xs' bad', blobR most xs bad = (D, xs', bad') ∧ (D.length : Int) ≤ most ∧ (bad' = false → bad = false ∧ xs = encB D ++ xs') := by
  unfold blobR
  cases hp : blobS most xs bad with
  | none => exact ⟨[], xs, true, rfl, by simpa using h0, fun h => by cases h⟩
  | some z =>
    obtain ⟨x, s⟩ := z
    simp only
    have hf := blobS_facts hp
    have hl : ((xs.drop s).take x).length = x := by rw [List.length_take, List.length_drop]; omega
    refine ⟨_, _, false, rfl, by rw [hl]; exact hf.2.2.2.2.2, fun _ => ⟨hf.1, ?_⟩⟩
    have hb : bad = false := hf.1
    subst hb
    have hq : peekS xs false = some (x, s) := by
      unfold blobS at hp
      cases hq : peekS xs false with
      | none => rw [hq] at hp; cases hp
      | some z =>
        rw [hq] at hp
        obtain ⟨x', s'⟩ := z
        simp only at hp
        split at hp
        · simpa using hp
        · cases hp
    have h1 : first xs = some (x, s) := by simpa [peekS] using hq
    have h2 := first_enc h1
    unfold encB
    rw [hl, ← h2.1, List.append_assoc, ← List.drop_drop, List.take_append_drop, List.take_append_drop]
theorem fnum (most : Int) (h0 : 0 ≤ most) (h1 : most < 18446744073709551616) (xs : List UInt8) (bad : Bool) {N : Nat} {xs' : List UInt8} {bad' : Bool} (h : numS most.toNat xs bad = (N, xs', bad')) : pack_Cut_Num.f (st xs) bad most = some ((N : Int), st xs', bad') := by
  unfold pack_Cut_Num.f
  rw [if_pos ⟨h0, h1⟩, tb_st, h]
theorem ftext (most : Int) (h1 : most ≤ 9223372036854775807) (xs : List UInt8) (bad : Bool) {D xs' : List UInt8} {bad' : Bool} (h : blobR most xs bad = (D, xs', bad')) : pack_Cut_Text.f (st xs) bad most = some (st D, st xs', bad') := by
  unfold pack_Cut_Text.f
  rw [if_pos h1, tb_st, h]
theorem cols_un (n : Nat) (hn : n ≤ 6) : ∀ (d i : Nat) (acc : List S39) (xs : List UInt8) (bad : Bool), n - i = d → i ≤ n → acc.length = i → (∀ c ∈ acc, c.f0.size ≤ 16) →
    ∃ (R : List S39) (rest : List UInt8) (b : Bool), Ev (fun k => cell_TakeCols.l0 k acc (n : Int) (i : Int) (st xs) bad) (R, st rest, b) ∧ (b = false → bad = false ∧ mayB R = true ∧ ∃ new, R = acc ++ new ∧ new.length = d ∧ xs = new.flatMap colE ++ rest) := by
  intro d
  induction d with
  | zero =>
    intro i acc xs bad hd hi ha hs
    have hit : ¬ (i : Int) < (n : Int) := by omega
    cases bad with
    | true =>
      refine ⟨[], xs, true, ?_, fun h => by cases h⟩
      refine ev1 _ (fun k => by simp only [cell_TakeCols.l0]; rfl) ?_
      simp only [if_neg hit]
      refine bind1 (a := ((2 : Int), st xs, true)) rfl ?_
      simp only [if_neg (show ¬ (2 : Int) = 0 by decide)]
      refine ev1 _ (fun k => by simp only [cell_TakeCols.j1]; rfl) ?_
      simp only [Bool.false_eq_true, if_false]
      refine bind1 (a := ((2 : Int), st xs, true)) rfl ?_
      simp only [if_neg (show ¬ (2 : Int) = 0 by decide)]
      exact Ev.now _
    | false =>
      have hmay : cell_May.f acc = some (mayB acc) := cell_may_some acc (fun x hx => by have := hs x hx; omega)
      cases hm : mayB acc with
      | true =>
        refine ⟨acc, xs, false, ?_, fun _ => ⟨rfl, hm, [], by simp, rfl, rfl⟩⟩
        refine ev1 _ (fun k => by simp only [cell_TakeCols.l0]; rfl) ?_
        simp only [if_neg hit]
        refine bind1 (a := ((0 : Int), st xs, false)) rfl ?_
        simp only [if_true]
        refine bind1 (hmay.trans (by rw [hm])) ?_
        refine ev1 _ (fun k => by simp only [cell_TakeCols.j1]; rfl) ?_
        simp only [Bool.not_true, Bool.false_eq_true, if_false]
        refine bind1 (a := ((0 : Int), st xs, false)) rfl ?_
        simp only [if_true]
        exact Ev.now _
      | false =>
        refine ⟨[], xs, true, ?_, fun h => by cases h⟩
        refine ev1 _ (fun k => by simp only [cell_TakeCols.l0]; rfl) ?_
        simp only [if_neg hit]
        refine bind1 (a := ((0 : Int), st xs, false)) rfl ?_
        simp only [if_true]
        refine bind1 (hmay.trans (by rw [hm])) ?_
        refine ev1 _ (fun k => by simp only [cell_TakeCols.j1]; rfl) ?_
        simp only [Bool.not_false, if_true]
        refine bind1 (a := (st xs, true)) rfl ?_
        simp only
        refine bind1 (a := ((2 : Int), st xs, true)) rfl ?_
        simp only [if_neg (show ¬ (2 : Int) = 0 by decide)]
        exact Ev.now _
  | succ d ih =>
    intro i acc xs bad hd hi ha hs
    obtain ⟨D, xs1, b1, e1, hD, u1⟩ := blob_un 16 (by decide) xs bad
    obtain ⟨N, xs2, b2, e2, hN, u2⟩ := num_un 2 xs1 b1
    have hw : wrap64 (N : Int) = (N : Int) := w64 (by omega) (by omega)
    have hw1 : IntKind.u64.wrap ((i : Int) + 1) = ((i + 1 : Nat) : Int) := by rw [wrapu]; omega
    obtain ⟨R, rest, b, h1, h2⟩ := ih (i + 1) (acc ++ [(⟨st D, (N : Int)⟩ : S39)]) xs2 b2 (by omega) (by omega) (by simp [ha]) (fun c hc => by
      rcases List.mem_append.1 hc with hc | hc
      · exact hs c hc
      · obtain rfl := List.mem_singleton.1 hc
        show (st D).size ≤ 16
        rw [st_size]; omega)
    refine ⟨R, rest, b, ?_, fun hb => ?_⟩
    · refine ev1 _ (fun k => by simp only [cell_TakeCols.l0]; rfl) ?_
      simp only [if_pos (show (i : Int) < (n : Int) by omega)]
      refine bind1 (ftext 16 (by decide) xs bad e1) ?_
      simp only
      refine bind1 (fnum 2 (by decide) (by decide) xs1 b1 e2) ?_
      simp only [if_pos (show acc.length < 5864062014805 by omega), hw1, hw]
      exact h1
    · obtain ⟨k1, k2, new, k3, k4, k5⟩ := h2 hb
      obtain ⟨k6, k7, _⟩ := u2 k1
      obtain ⟨k8, k9⟩ := u1 k6
      refine ⟨k8, k2, ⟨st D, (N : Int)⟩ :: new, by rw [k3]; simp, by simp [k4], ?_⟩
      have e : colE (⟨st D, (N : Int)⟩ : S39) = encB D ++ encN N := by
        unfold colE
        simp only [tb_st]
        rw [show ((N : Int) % 256).toNat = N by omega]
      rw [List.flatMap_cons, e, k9, k7, k5]
      simp
theorem takeCols_un (xs : List UInt8) : ∃ (R : List S39) (rest : List UInt8) (b : Bool), Ev (fun k => cell_TakeCols.f k (st xs) false) (R, st rest, b) ∧ (b = false → mayB R = true ∧ xs = (encN R.length ++ R.flatMap colE) ++ rest) := by
  obtain ⟨N, xs1, b1, e1, hN, u1⟩ := num_un 6 xs false
  obtain ⟨R, rest, b, h1, h2⟩ := cols_un N hN _ 0 [] xs1 b1 rfl (Nat.zero_le _) rfl (fun _ h => by cases h)
  refine ⟨R, rest, b, ?_, fun hb => ?_⟩
  · unfold cell_TakeCols.f
    refine bind1 (fnum 6 (by decide) (by decide) xs false e1) ?_
    simp only
    exact h1
  · obtain ⟨k1, k2, new, k3, k4, k5⟩ := h2 hb
    obtain ⟨_, k6, _⟩ := u1 k1
    rw [List.nil_append] at k3
    subst k3
    refine ⟨k2, ?_⟩
    rw [k6, k5, k4]
    simp
theorem plain_un (N : Nat) (h : N < 18446744073709551616) : ∃ v, cell_plain.f (N : Int) = some v ∧ (Lit.int .i64 v).wf = true ∧ foldZ v = (N : Int) := by
  have key : ∀ v : Int, -9223372036854775808 ≤ v → v ≤ 9223372036854775807 → foldZ v = (N : Int) → ∃ v, cell_plain.f (N : Int) = some v ∧ (Lit.int .i64 v).wf = true ∧ foldZ v = (N : Int) := fun v h1 h2 h3 => by
    refine ⟨v, ?_, ?_, h3⟩
    · rw [← h3]; exact plain_fold v h1 h2
    · simp only [Lit.wf, Bool.and_eq_true, decide_eq_true_eq]
      exact ⟨h1, h2⟩
  by_cases hm : N % 2 = 0
  · exact key ((N : Int) / 2) (by omega) (by omega) (by unfold foldZ; rw [if_neg (by omega)]; omega)
  · exact key (-((N : Int) / 2) - 1) (by omega) (by omega) (by unfold foldZ; rw [if_pos (by omega)]; omega)
theorem row_un (since : Int) (n : Nat) (hn : n ≤ 6) : ∀ (d i : Nat) (acc : List S56) (xs : List UInt8) (bad : Bool), n - i = d → i ≤ n → acc.length = i →
    ∃ (s : Int) (R : List S56) (rest : List UInt8) (b : Bool), Ev (fun k => cell_Take.l0 k since acc (n : Int) (i : Int) (st xs) bad) (s, R, st rest, b) ∧ (b = true → s = 0 ∧ R = []) ∧
      (b = false → bad = false ∧ s = since ∧ ∃ new, R = acc ++ new ∧ new.length = d ∧ xs = new.flatMap cellE ++ rest ∧ ∀ c ∈ new, c.f2.size ≤ 256 ∧ (Lit.int .i64 c.f1).wf = true) := by
  intro d
  induction d with
  | zero =>
    intro i acc xs bad hd hi ha
    have hit : ¬ (i : Int) < (n : Int) := by omega
    cases bad with
    | true =>
      refine ⟨0, [], xs, true, ?_, fun _ => ⟨rfl, rfl⟩, fun h => by cases h⟩
      refine ev1 _ (fun k => by simp only [cell_Take.l0]; rfl) ?_
      simp only [if_neg hit]
      refine bind1 (a := ((2 : Int), st xs, true)) rfl ?_
      simp only [if_neg (show ¬ (2 : Int) = 0 by decide)]
      exact Ev.now _
    | false =>
      refine ⟨since, acc, xs, false, ?_, (fun h => by cases h), fun _ => ⟨rfl, rfl, [], by simp, rfl, rfl, fun _ h => by cases h⟩⟩
      refine ev1 _ (fun k => by simp only [cell_Take.l0]; rfl) ?_
      simp only [if_neg hit]
      refine bind1 (a := ((0 : Int), st xs, false)) rfl ?_
      simp only [if_true]
      exact Ev.now _
  | succ d ih =>
    intro i acc xs bad hd hi ha
    have hw1 : IntKind.u64.wrap ((i : Int) + 1) = ((i + 1 : Nat) : Int) := by rw [wrapu]; omega
    obtain ⟨K, xs1, b1, e1, hK, u1⟩ := num_un 2 xs bad
    have hwK : wrap64 (K : Int) = (K : Int) := w64 (by omega) (by omega)
    have hit : (i : Int) < (n : Int) := by omega
    have hal : acc.length < 4398046511104 := by omega
    by_cases h1 : K = 1
    · obtain ⟨N, xs2, b2, e2, hN, u2⟩ := num_un 18446744073709551615 xs1 b1
      obtain ⟨v, p1, p2, p3⟩ := plain_un N (by omega)
      obtain ⟨s, R, rest, b, g1, g2, g3⟩ := ih (i + 1) (acc ++ [(⟨1, v, ⟨#[]⟩⟩ : S56)]) xs2 b2 (by omega) (by omega) (by simp [ha])
      have hwr : wrongB 1 v (⟨#[]⟩ : ByteArray) = 0 := rfl
      refine ⟨s, R, rest, b, ?_, g2, fun hb => ?_⟩
      · refine ev1 _ (fun k => by simp only [cell_Take.l0]; rfl) ?_
        simp only [if_pos hit]
        refine bind1 (fnum 2 (by decide) (by decide) xs bad e1) ?_
        simp only [hwK, if_pos (show (K : Int) = 1 by omega)]
        refine bind1 (fnum 18446744073709551615 (by decide) (by decide) xs1 b1 e2) ?_
        simp only
        refine bind1 p1 ?_
        refine ev1 _ (fun k => by simp only [cell_Take.j2]; rfl) ?_
        simp only [show (K : Int) = 1 by omega]
        refine bind1 (wrong_some _ _ _) ?_
        simp only [if_pos hwr, if_pos hal, hw1]
        exact g1
      · obtain ⟨k1, k2, new, k3, k4, k5, k6⟩ := g3 hb
        obtain ⟨k7, k8, _⟩ := u2 k1
        obtain ⟨k9, k10, _⟩ := u1 k7
        refine ⟨k9, k2, ⟨1, v, ⟨#[]⟩⟩ :: new, by rw [k3]; simp, by simp [k4], ?_, fun c hc => ?_⟩
        · have e : cellE (⟨1, v, ⟨#[]⟩⟩ : S56) = encN K ++ encN N := by
            unfold cellE
            simp only [if_true]
            rw [p3, h1, Int.toNat_natCast]
          rw [List.flatMap_cons, e, k10, k8, k5]
          simp
        · rcases List.mem_cons.1 hc with rfl | hc
          · exact ⟨by show (0 : Nat) ≤ 256; omega, p2⟩
          · exact k6 c hc
    · obtain ⟨D, xs2, b2, e2, hD, u2⟩ := blob_un 256 (by decide) xs1 b1
      by_cases hz : wrongB (K : Int) 0 (st D) = 0
      · obtain ⟨s, R, rest, b, g1, g2, g3⟩ := ih (i + 1) (acc ++ [(⟨(K : Int), 0, st D⟩ : S56)]) xs2 b2 (by omega) (by omega) (by simp [ha])
        refine ⟨s, R, rest, b, ?_, g2, fun hb => ?_⟩
        · refine ev1 _ (fun k => by simp only [cell_Take.l0]; rfl) ?_
          simp only [if_pos hit]
          refine bind1 (fnum 2 (by decide) (by decide) xs bad e1) ?_
          simp only [hwK, if_neg (show ¬ (K : Int) = 1 by omega)]
          refine bind1 (ftext 256 (by decide) xs1 b1 e2) ?_
          simp only
          refine ev1 _ (fun k => by simp only [cell_Take.j2]; rfl) ?_
          refine bind1 (wrong_some _ _ _) ?_
          simp only [if_pos hz, if_pos hal, hw1]
          exact g1
        · obtain ⟨k1, k2, new, k3, k4, k5, k6⟩ := g3 hb
          obtain ⟨k7, k8⟩ := u2 k1
          obtain ⟨k9, k10, _⟩ := u1 k7
          have hK2 : K = 2 := by rcases wrong_zero hz with ⟨h, _⟩ | ⟨h, _⟩ <;> omega
          refine ⟨k9, k2, ⟨(K : Int), 0, st D⟩ :: new, by rw [k3]; simp, by simp [k4], ?_, fun c hc => ?_⟩
          · have e : cellE (⟨(K : Int), 0, st D⟩ : S56) = encN K ++ encB D := by
              unfold cellE
              simp only [tb_st]
              rw [if_neg (by omega), hK2]
            rw [List.flatMap_cons, e, k10, k8, k5]
            simp
          · rcases List.mem_cons.1 hc with rfl | hc
            · exact ⟨by show (st D).size ≤ 256; rw [st_size]; omega, rfl⟩
            · exact k6 c hc
      · obtain ⟨s, R, rest, b, g1, g2, g3⟩ := ih (i + 1) (acc ++ [(⟨(K : Int), 0, st D⟩ : S56)]) xs2 true (by omega) (by omega) (by simp [ha])
        refine ⟨s, R, rest, b, ?_, g2, fun hb => by cases (g3 hb).1⟩
        refine ev1 _ (fun k => by simp only [cell_Take.l0]; rfl) ?_
        simp only [if_pos hit]
        refine bind1 (fnum 2 (by decide) (by decide) xs bad e1) ?_
        simp only [hwK, if_neg (show ¬ (K : Int) = 1 by omega)]
        refine bind1 (ftext 256 (by decide) xs1 b1 e2) ?_
        simp only
        refine ev1 _ (fun k => by simp only [cell_Take.j2]; rfl) ?_
        refine bind1 (wrong_some _ _ _) ?_
        simp only [if_neg hz]
        refine bind1 (a := (st xs2, true)) rfl ?_
        simp only [if_pos hal, hw1]
        exact g1
theorem take_un (xs : List UInt8) : ∃ (s : Int) (R : List S56) (rest : List UInt8) (b : Bool), Ev (fun k => cell_Take.f k (st xs) false) (s, R, st rest, b) ∧ (b = true → s = 0 ∧ R = []) ∧
    (b = false → (0 ≤ s ∧ s < 18446744073709551616) ∧ 0 < R.length ∧ R.length ≤ 6 ∧ xs = (encN s.toNat ++ (encN R.length ++ R.flatMap cellE)) ++ rest ∧ ∀ c ∈ R, c.f2.size ≤ 256 ∧ (Lit.int .i64 c.f1).wf = true) := by
  obtain ⟨S, xs1, b1, e1, hS, u1⟩ := num_un 18446744073709551615 xs false
  obtain ⟨N, xs2, b2, e2, hN, u2⟩ := num_un 6 xs1 b1
  have hrun : ∀ bad, (N = 0 → bad = true) → ∃ (s : Int) (R : List S56) (rest : List UInt8) (b : Bool), Ev (fun k => cell_Take.j0 k (S : Int) [] (N : Int) (st xs2) bad) (s, R, st rest, b) ∧ (b = true → s = 0 ∧ R = []) ∧
      (b = false → bad = false ∧ s = (S : Int) ∧ R.length = N ∧ xs2 = R.flatMap cellE ++ rest ∧ ∀ c ∈ R, c.f2.size ≤ 256 ∧ (Lit.int .i64 c.f1).wf = true) := fun bad _ => by
    obtain ⟨s, R, rest, b, g1, g2, g3⟩ := row_un (S : Int) N hN _ 0 [] xs2 bad rfl (Nat.zero_le _) rfl
    refine ⟨s, R, rest, b, ?_, g2, fun hb => ?_⟩
    · refine ev1 _ (fun k => by simp only [cell_Take.j0]; rfl) ?_
      exact g1
    · obtain ⟨k1, k2, new, k3, k4, k5, k6⟩ := g3 hb
      rw [List.nil_append] at k3
      subst k3
      exact ⟨k1, k2, by omega, k5, k6⟩
  by_cases h0 : N = 0
  · obtain ⟨s, R, rest, b, g1, g2, g3⟩ := hrun true (fun _ => rfl)
    refine ⟨s, R, rest, b, ?_, g2, fun hb => by cases (g3 hb).1⟩
    unfold cell_Take.f
    refine bind1 (fnum 18446744073709551615 (by decide) (by decide) xs false e1) ?_
    simp only
    refine bind1 (fnum 6 (by decide) (by decide) xs1 b1 e2) ?_
    simp only [if_pos (show (N : Int) = 0 by omega)]
    refine bind1 (a := (st xs2, true)) rfl ?_
    exact g1
  · obtain ⟨s, R, rest, b, g1, g2, g3⟩ := hrun b2 (fun h => absurd h h0)
    refine ⟨s, R, rest, b, ?_, g2, fun hb => ?_⟩
    · unfold cell_Take.f
      refine bind1 (fnum 18446744073709551615 (by decide) (by decide) xs false e1) ?_
      simp only
      refine bind1 (fnum 6 (by decide) (by decide) xs1 b1 e2) ?_
      simp only [if_neg (show ¬ (N : Int) = 0 by omega)]
      exact g1
    · obtain ⟨k1, k2, k3, k4, k5⟩ := g3 hb
      obtain ⟨k6, k7, _⟩ := u2 k1
      obtain ⟨_, k8, _⟩ := u1 k6
      refine ⟨⟨by omega, by omega⟩, by omega, by omega, ?_, k5⟩
      rw [k8, k7, k4, k2, k3, Int.toNat_natCast]
      simp
theorem take_pre (E rest : List UInt8) : (E ++ rest).take ((E ++ rest).length - rest.length) = E := by
  rw [List.length_append, Nat.add_sub_cancel, List.take_left]
theorem onlyCols_ev (l0 : List Int) (R : List S39) (rest : List UInt8) (b : Bool) (h : b = false → mayB R = true ∧ toB l0 = (encN R.length ++ R.flatMap colE) ++ rest) : Ev (fun k => onlyCols k l0 (R, st rest, b)) () := by
  unfold onlyCols
  cases b with
  | true => simp only [if_true]; exact Ev.now _
  | false =>
    simp only [Bool.false_eq_true, if_false, st_size]
    obtain ⟨h1, h2⟩ := h rfl
    obtain ⟨m0, m1, m2⟩ := may_facts R h1
    have hs : ∀ x ∈ R, x.f0.size ≤ 5000 := fun x hx => by
      obtain ⟨j, hj, rfl⟩ := List.getElem_of_mem hx
      have := (m2 j hj).1
      omega
    have hw : ∀ x ∈ R, (Lit.int .i64 x.f1).wf = true := fun x hx => by
      obtain ⟨j, hj, rfl⟩ := List.getElem_of_mem hx
      rcases (m2 j hj).2 with h | h <;> rw [h] <;> rfl
    have hl : (toB l0).length = l0.length := toB_length l0
    have hlen : rest.length ≤ l0.length := by rw [← hl, h2, List.length_append]; omega
    have hmay : cell_May.f R = some true := (cell_may_some R (fun x hx => by have := hs x hx; omega)).trans (by rw [h1])
    simp only [if_pos (⟨hlen, hmay⟩ : rest.length ≤ l0.length ∧ cell_May.f R = some true)]
    refine Ev.bind (putCols_ev R (by omega) hs hw) ?_
    have he : okB (ofB (encN R.length ++ R.flatMap colE)) = true ∧ toB (ofB (encN R.length ++ R.flatMap colE)) = (toB l0).take (l0.length - rest.length) := ⟨okB_ofB _, by rw [toB_ofB, ← hl, h2, take_pre]⟩
    simp only [if_pos he]
    exact Ev.now _
theorem onlyRow_ev (l0 : List Int) (s : Int) (R : List S56) (rest : List UInt8) (b : Bool) (g : b = true → s = 0 ∧ R = [])
    (h : b = false → (0 ≤ s ∧ s < 18446744073709551616) ∧ 0 < R.length ∧ R.length ≤ 6 ∧ toB l0 = (encN s.toNat ++ (encN R.length ++ R.flatMap cellE)) ++ rest ∧ ∀ c ∈ R, c.f2.size ≤ 256 ∧ (Lit.int .i64 c.f1).wf = true) : Ev (fun k => onlyRow k l0 (s, R, st rest, b)) true := by
  unfold onlyRow
  cases b with
  | true =>
    obtain ⟨rfl, rfl⟩ := g rfl
    simp only [if_true, true_and]
    exact awake11_ev
  | false =>
    simp only [Bool.false_eq_true, if_false, st_size]
    obtain ⟨h0, h1, h2, h3, h4⟩ := h rfl
    have hl : (toB l0).length = l0.length := toB_length l0
    have hlen : rest.length < l0.length := by rw [← hl, h3, List.length_append, List.length_append, encN_length]; omega
    simp only [if_pos (⟨hlen, h1, h2⟩ : rest.length < l0.length ∧ 0 < R.length ∧ R.length ≤ 6)]
    refine Ev.bind (put_ev [] s R rfl (by simp) h0 (by omega) (fun x hx => by have := (h4 x hx).1; omega) (fun x hx => (h4 x hx).2)) ?_
    have he : okB ([] ++ ofB (encN s.toNat ++ (encN R.length ++ R.flatMap cellE))) = true ∧ toB ([] ++ ofB (encN s.toNat ++ (encN R.length ++ R.flatMap cellE))) = (toB l0).take (l0.length - rest.length) := ⟨by rw [List.nil_append]; exact okB_ofB _, by rw [List.nil_append, toB_ofB, ← hl, h3, take_pre]⟩
    simp only [if_pos he]
    exact awake11_ev
theorem okB_wf {l : List Int} (h : ∀ x ∈ l, (Lit.int .u8 x).wf = true) : okB l = true := by
  refine List.all_eq_true.2 fun x hx => decide_eq_true ?_
  have := h x hx
  simp [Lit.wf] at this
  have h0 : IntKind.u8.min = 0 := by decide
  have h1 : IntKind.u8.max = 255 := by decide
  omega
theorem CellOnly : incipitlaw11_CellOnly.Pure := by
  intro l0 hm0 hm1 hb
  refine Ev.rounds (r := true) ?_
  unfold incipitlaw11_CellOnly.f
  simp only [if_pos (okB_wf hb)]
  by_cases h : (l0.length : Int) > 20000
  · simp only [if_pos h]; exact awake11_ev
  simp only [if_neg h]
  obtain ⟨R, rest, b, t1, t2⟩ := takeCols_un (toB l0)
  obtain ⟨s, Q, rest2, b2, q1, q2, q3⟩ := take_un (toB l0)
  refine Ev.bind t1 ?_
  refine Ev.bind (onlyCols_ev l0 R rest b t2) ?_
  refine Ev.bind q1 ?_
  exact onlyRow_ev l0 s Q rest2 b2 q2 q3
end Go.Proofs.YtpgcepfecmkkaaaDoor.Pure
