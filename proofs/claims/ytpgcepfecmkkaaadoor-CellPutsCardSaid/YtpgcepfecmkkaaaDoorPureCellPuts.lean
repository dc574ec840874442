/-
  CellPuts: the plain law.
-/
import Derived.Test.YtpgcepfecmkkaaaDoorZAx
import Derived.Laws.BitsAllLaws
set_option linter.unusedVariables false
set_option linter.unusedSimpArgs false
namespace Go.Proofs.YtpgcepfecmkkaaaDoor.Ref
open Go.RowKit Go.Proofs.YtpgcepfecmkkaaaDoor Go.Proofs.YtpgcepfecmkkaaaDoorZ.ZA Go.Proofs.YtpgcepfecmkkaaaDoorW.PrintWords

theorem w64 {x : Int} (h1 : -9223372036854775808 ≤ x) (h2 : x ≤ 9223372036854775807) : wrap64 x = x := by unfold wrap64; omega
theorem wf64 {x : Int} (h : (Lit.int .i64 x).wf = true) : -9223372036854775808 ≤ x ∧ x ≤ 9223372036854775807 := by
  simp only [Lit.wf, Bool.and_eq_true, decide_eq_true_eq] at h
  exact h
/-! ### a code point's bytes -/
/-- A loop's round. -/
theorem ev1 {α : Type} {g : Nat → Option α} {r : α} (f : Nat → Option α) (h : ∀ k, g (k + 1) = f k) (k : Ev f r) : Ev g r := Ev.step h k
theorem bind1 {α β : Type} {x : Option α} {a : α} {f : Nat → α → Option β} {r : β} (h : x = some a) (k : Ev (fun n => f n a) r) : Ev (fun n => x.bind (f n)) r := by
  rw [h]; exact k
end Go.Proofs.YtpgcepfecmkkaaaDoor.Ref
set_option linter.unusedVariables false
set_option linter.unusedSimpArgs false
namespace Go.Proofs.YtpgcepfecmkkaaaDoor.Ref
open Go.RowKit Go.Proofs.YtpgcepfecmkkaaaDoor Go.Proofs.YtpgcepfecmkkaaaDoorZ.ZA Go.Proofs.YtpgcepfecmkkaaaDoorW.PrintWords

end Go.Proofs.YtpgcepfecmkkaaaDoor.Ref
set_option linter.unusedVariables false
set_option linter.unusedSimpArgs false
namespace Go.Proofs.YtpgcepfecmkkaaaDoor.Ref
open Go.RowKit Go.Proofs.YtpgcepfecmkkaaaDoor Go.Proofs.YtpgcepfecmkkaaaDoorZ.ZA Go.Proofs.YtpgcepfecmkkaaaDoorW.PrintWords

/-! ### columns -/
end Go.Proofs.YtpgcepfecmkkaaaDoor.Ref
set_option linter.unusedVariables false
set_option linter.unusedSimpArgs false
namespace Go.Proofs.YtpgcepfecmkkaaaDoor.Ref
open Go.RowKit Go.Proofs.YtpgcepfecmkkaaaDoor Go.Proofs.YtpgcepfecmkkaaaDoorZ.ZA Go.Proofs.YtpgcepfecmkkaaaDoorW.PrintWords

theorem wide_from (l : List S56) : ∀ (d i : Nat), 101 - i = d → i ≤ 101 → i ≤ l.length → ∃ b, Ev (fun k => incipitlaw11_wide.l0 k l (i : Int)) b ∧ (b = false → l.length ≤ 100 ∧ ∀ m, i ≤ m → m < l.length → (rd_T56 l (m : Int)).f2.size ≤ 5000) := by
  intro d
  have last : ∀ i : Nat, (l.length ≤ i ∨ 101 ≤ i) → i ≤ l.length → ∃ b, Ev (fun k => incipitlaw11_wide.j1 k l (i : Int) false) b ∧ (b = false → l.length ≤ 100 ∧ ∀ m, i ≤ m → m < l.length → (rd_T56 l (m : Int)).f2.size ≤ 5000) := fun i hi hil => by
    refine ⟨decide ((l.length : Int) > 100), ?_, fun h => ?_⟩
    · refine ev1 _ (fun k => by simp only [incipitlaw11_wide.j1]; rfl) ?_
      simp only [Bool.false_eq_true, if_false]
      exact Ev.now _
    · have := of_decide_eq_false h
      exact ⟨by omega, fun m h1 h2 => by omega⟩
  induction d with
  | zero =>
    intro i hd hi hil
    obtain ⟨b, h1, h2⟩ := last i (.inr (by omega)) hil
    refine ⟨b, ?_, h2⟩
    refine ev1 _ (fun k => by simp only [incipitlaw11_wide.l0]; rfl) ?_
    by_cases hlt : (i : Int) < (l.length : Int)
    · simp only [if_pos hlt, decide_eq_false (show ¬ (i : Int) < 101 by omega)]; exact h1
    · simp only [if_neg hlt]; exact h1
  | succ d ih =>
    intro i hd hi hil
    by_cases hlt : i < l.length
    · have hw : wrap64 ((i : Int) + 1) = ((i + 1 : Nat) : Int) := by rw [w64 (by omega) (by omega)]; omega
      by_cases hbig : 5000 < (rd_T56 l (i : Int)).f2.size
      · refine ⟨true, ?_, fun h => (by cases h)⟩
        refine ev1 _ (fun k => by simp only [incipitlaw11_wide.l0]; rfl) ?_
        simp only [if_pos (show (i : Int) < (l.length : Int) by omega), decide_eq_true (show (i : Int) < 101 by omega)]
        refine ev1 _ (fun k => by simp only [incipitlaw11_wide.j1]; rfl) ?_
        simp only [if_true, if_pos (show (0 : Int) ≤ (i : Int) by omega), if_pos (show (i : Int) < (l.length : Int) by omega), if_pos (show ((rd_T56 l (i : Int)).f2.size : Int) > 5000 by omega)]
        exact Ev.now _
      · obtain ⟨b, h1, h2⟩ := ih (i + 1) (by omega) (by omega) (by omega)
        refine ⟨b, ?_, fun h => ⟨(h2 h).1, fun m hm hml => ?_⟩⟩
        · refine ev1 _ (fun k => by simp only [incipitlaw11_wide.l0]; rfl) ?_
          simp only [if_pos (show (i : Int) < (l.length : Int) by omega), decide_eq_true (show (i : Int) < 101 by omega)]
          refine ev1 _ (fun k => by simp only [incipitlaw11_wide.j1]; rfl) ?_
          simp only [if_true, if_pos (show (0 : Int) ≤ (i : Int) by omega), if_pos (show (i : Int) < (l.length : Int) by omega), if_neg (show ¬ ((rd_T56 l (i : Int)).f2.size : Int) > 5000 by omega), hw]
          exact h1
        · rcases Nat.eq_or_lt_of_le hm with h3 | h3
          · rw [← h3]; omega
          · exact (h2 h).2 m h3 hml
    · obtain ⟨b, h1, h2⟩ := last i (.inl (by omega)) hil
      refine ⟨b, ?_, h2⟩
      refine ev1 _ (fun k => by simp only [incipitlaw11_wide.l0]; rfl) ?_
      simp only [if_neg (show ¬ (i : Int) < (l.length : Int) by omega)]
      exact h1
theorem wide_ev (l : List S56) : ∃ b, Ev (fun k => incipitlaw11_wide.f k l) b ∧ (b = false → l.length ≤ 100 ∧ ∀ m : Nat, m < l.length → (rd_T56 l (m : Int)).f2.size ≤ 5000) := by
  obtain ⟨b, h1, h2⟩ := wide_from l _ 0 rfl (by omega) (Nat.zero_le _)
  exact ⟨b, h1, fun h => ⟨(h2 h).1, fun m hm => (h2 h).2 m (Nat.zero_le _) hm⟩⟩
end Go.Proofs.YtpgcepfecmkkaaaDoor.Ref
set_option linter.unusedVariables false
set_option linter.unusedSimpArgs false
namespace Go.Proofs.YtpgcepfecmkkaaaDoor.Ref
open Go.RowKit Go.Proofs.YtpgcepfecmkkaaaDoor Go.Proofs.YtpgcepfecmkkaaaDoorZ.ZA Go.Proofs.YtpgcepfecmkkaaaDoorW.PrintWords
set_option maxRecDepth 100000 in
theorem awake11_ev : Ev (fun k => incipitlaw11_awake.f k) true := Ev.of incipitlaw11_awake.mono (k := 400) (by decide +kernel)
end Go.Proofs.YtpgcepfecmkkaaaDoor.Ref
set_option linter.unusedVariables false
set_option linter.unusedSimpArgs false
namespace Go.Proofs.YtpgcepfecmkkaaaDoor.Pure
open Go.RowKit Go.Proofs.YtpgcepfecmkkaaaDoor Go.Proofs.YtpgcepfecmkkaaaDoor.Ref Go.Proofs.YtpgcepfecmkkaaaDoorZ.ZA Go.Proofs.YtpgcepfecmkkaaaDoorW.PrintWords
theorem xor_ones (a : Nat) (h : a < 18446744073709551616) : a ^^^ 18446744073709551615 = 18446744073709551615 - a := by
  have h1 : (BitVec.ofNat 64 a ^^^ BitVec.allOnes 64) = ~~~(BitVec.ofNat 64 a) := BitVec.xor_allOnes
  have h2 := congrArg BitVec.toNat h1
  rw [BitVec.toNat_xor, BitVec.toNat_not, BitVec.toNat_ofNat, BitVec.toNat_allOnes, Nat.mod_eq_of_lt (by omega : a < 2 ^ 64)] at h2
  exact h2
theorem wrapu (n : Int) : IntKind.u64.wrap n = n % 18446744073709551616 := by simp [IntKind.wrap, IntKind.bits, IntKind.signed]
theorem fold_eq (n : Int) (h1 : -9223372036854775808 ≤ n) (h2 : n ≤ 9223372036854775807) : ∃ x, cell_folded.f n = some x ∧ incipitref11_Fold.f n = some x ∧ 0 ≤ x ∧ x < 18446744073709551616 := by
  unfold cell_folded.f incipitref11_Fold.f
  by_cases h : n < 0
  · refine ⟨-2 * n - 1, ?_, ?_, by omega, by omega⟩
    · have e1 : n / 9223372036854775808 = -1 := by omega
      have e2 : IntKind.u64.wrap (IntKind.u64.wrap n * 2) = 2 * n + 18446744073709551616 := by rw [wrapu, wrapu]; omega
      rw [e1, e2, show IntKind.u64.wrap (-1) = 18446744073709551615 from rfl, u64_xor _ _ (by omega) (by omega) (by decide) (by decide), show ((18446744073709551615 : Int).toNat) = 18446744073709551615 from rfl, xor_ones _ (by omega)]
      congr 1
      omega
    · rw [if_pos h]
      congr 1
      rw [w64 (x := n + 1) (by omega) (by omega), w64 (by omega) (by omega), wrapu, wrapu, wrapu]
      omega
  · refine ⟨2 * n, ?_, ?_, by omega, by omega⟩
    · have e1 : n / 9223372036854775808 = 0 := by omega
      have e2 : IntKind.u64.wrap (IntKind.u64.wrap n * 2) = 2 * n := by rw [wrapu, wrapu]; omega
      rw [e1, e2, show IntKind.u64.wrap 0 = 0 from rfl, u64_xor _ _ (by omega) (by omega) (by decide) (by decide), show ((0 : Int).toNat) = 0 from rfl, Nat.xor_zero]
      congr 1
      omega
    · rw [if_neg h]
      congr 1
      rw [wrapu, wrapu]
      omega
theorem low_byte (n : Int) (h1 : -9223372036854775808 ≤ n) (h2 : n ≤ 9223372036854775807) : IntKind.u64.wrap (Go.bits .and .i64 n 255) = n % 256 := by
  have e : (BitVec.ofInt 64 n &&& BitVec.ofInt 64 255).toNat = (n % 256).toNat := by
    rw [BitVec.toNat_and, BitVec.toNat_ofInt, show (BitVec.ofInt 64 255).toNat = 2 ^ 8 - 1 from rfl, Nat.and_two_pow_sub_one_eq_mod]
    omega
  have hb : Go.bits .and .i64 n 255 = IntKind.i64.wrap ((BitVec.ofInt 64 n &&& BitVec.ofInt 64 255).toNat : Int) := rfl
  rw [hb, e, show IntKind.i64.wrap (((n % 256).toNat : Nat) : Int) = wrap64 (((n % 256).toNat : Nat) : Int) from by unfold Go.RowKit.wrap64; exact IntKind.wrap_i64 _, w64 (by omega) (by omega), wrapu]
  omega
def Good (l : List Int) (m : Nat) : Prop := okB l = true ∧ l.length ≤ m
theorem okU1 {x : Int} (h : 0 ≤ x ∧ x < 18446744073709551616) : okU [x] = true := by simp [okU, h.1, h.2]
theorem okU2 {x y : Int} (h : 0 ≤ x ∧ x < 18446744073709551616) (h' : 0 ≤ y ∧ y < 18446744073709551616) : okU [x, y] = true := by simp [okU, h.1, h.2, h'.1, h'.2]
theorem nums_good (l : List Int) (m : Nat) (us : List Int) (h : Good l m) (hu : okU us = true) (hm : m + 9 * us.length ≤ 1000000000) :
    ∃ r, pack_Num.f l us = some r ∧ incipitref02_Nums.f l us = some r ∧ Good r (m + 9 * us.length) := by
  have hle := encNs_le (us.map Int.toNat)
  rw [List.length_map] at hle
  have hc : okB l = true ∧ okU us = true ∧ l.length + (encNs (us.map Int.toNat)).length ≤ 140737488355328 := ⟨h.1, hu, by have := h.2; omega⟩
  refine ⟨_, if_pos hc, if_pos hc, ?_, ?_⟩
  · rw [okB_app, h.1, okB_ofB]; rfl
  · rw [List.length_append, ofB_length]; have := h.2; omega
theorem text_good (l : List Int) (m : Nat) (s : ByteArray) (h : Good l m) (hs : s.size ≤ 5000) (hm : m + 5009 ≤ 1000000000) :
    ∃ r, pack_Text.f l [s] = some r ∧ incipitref02_Texts.f l [s] = some r ∧ Good r (m + 5009) := by
  have hle : (encTs [s]).length ≤ 5009 := by
    have e : encTs [s] = encN (tb s).length ++ tb s := by simp [encTs, encB]
    rw [e, List.length_append, encN_length, tb_length]
    have := nb_le s.size
    omega
  have hc : okB l = true ∧ l.length + (encTs [s]).length ≤ 140737488355328 := ⟨h.1, by have := h.2; omega⟩
  refine ⟨_, if_pos hc, if_pos hc, ?_, ?_⟩
  · rw [okB_app, h.1, okB_ofB]; rfl
  · rw [List.length_append, ofB_length]; have := h.2; omega
theorem rd_col (l : List S39) (i : Nat) (h : i < l.length) : rd_T39 l (i : Int) = l[i] := by simp [rd_T39, List.getD, h]
theorem rd_cell (l : List S56) (i : Nat) (h : i < l.length) : rd_T56 l (i : Int) = l[i] := by simp [rd_T56, List.getD, h]
theorem cols_loop (cols : List S39) (hl : cols.length ≤ 100) (hs : ∀ x ∈ cols, x.f0.size ≤ 5000) (hw : ∀ x ∈ cols, (Lit.int .i64 x.f1).wf = true) : ∀ (d i : Nat) (b : List Int) (m : Nat), cols.length - i = d → i ≤ cols.length → Good b m → m + d * 6000 ≤ 1000000000 →
    ∃ r, Ev (fun k => cell_PutCols.l0 k b cols (cols.length : Int) (i : Int)) r ∧ Ev (fun k => incipitref11_PutCols.l0 k cols b (i : Int)) r := by
  intro d
  induction d with
  | zero =>
    intro i b m hd hi hb hm
    refine ⟨b, ?_, ?_⟩
    · refine ev1 _ (fun k => by simp only [cell_PutCols.l0]; rfl) ?_
      simp only [if_neg (show ¬ (i : Int) < (cols.length : Int) by omega)]
      exact Ev.now _
    · refine ev1 _ (fun k => by simp only [incipitref11_PutCols.l0]; rfl) ?_
      simp only [if_neg (show ¬ (i : Int) < (cols.length : Int) by omega)]
      exact Ev.now _
  | succ d ih =>
    intro i b m hd hi hb hm
    have hlt : i < cols.length := by omega
    have hwi := wf64 (hw _ (List.getElem_mem hlt))
    obtain ⟨t, t1, t2, t3⟩ := text_good b m cols[i].f0 hb (hs _ (List.getElem_mem hlt)) (by omega)
    obtain ⟨u, u1, u2, u3⟩ := nums_good t (m + 5009) [cols[i].f1 % 256] t3 (okU1 (by omega)) (by simp; omega)
    obtain ⟨r, r1, r2⟩ := ih (i + 1) u _ (by omega) (by omega) u3 (by simp; omega)
    have hw1 : wrap64 ((i : Int) + 1) = ((i + 1 : Nat) : Int) := by rw [w64 (by omega) (by omega)]; omega
    refine ⟨r, ?_, ?_⟩
    · refine ev1 _ (fun k => by simp only [cell_PutCols.l0]; rfl) ?_
      simp only [if_pos (show (i : Int) < (cols.length : Int) by omega), if_pos (show (0 : Int) ≤ (i : Int) by omega), rd_col cols i hlt, low_byte _ hwi.1 hwi.2]
      refine bind1 t1 ?_
      refine bind1 u1 ?_
      simp only [hw1]
      exact r1
    · refine ev1 _ (fun k => by simp only [incipitref11_PutCols.l0]; rfl) ?_
      simp only [if_pos (show (i : Int) < (cols.length : Int) by omega), if_pos (show (0 : Int) ≤ (i : Int) by omega), rd_col cols i hlt]
      refine bind1 t2 ?_
      refine bind1 u2 ?_
      simp only [hw1]
      exact r2
theorem wrap_len (n : Nat) (h : n ≤ 100) : IntKind.u64.wrap (n : Int) = (n : Int) := by rw [wrapu]; omega
theorem cols_same (b : List Int) (cols : List S39) (hb : Good b 5000) (hl : cols.length ≤ 100) (hs : ∀ x ∈ cols, x.f0.size ≤ 5000) (hw : ∀ x ∈ cols, (Lit.int .i64 x.f1).wf = true) :
    ∃ r, Ev (fun k => cell_PutCols.f k b cols) r ∧ Ev (fun k => incipitref11_PutCols.f k b cols) r := by
  obtain ⟨u, u1, u2, u3⟩ := nums_good b 5000 [(cols.length : Int)] hb (okU1 (by omega)) (by simp)
  obtain ⟨r, r1, r2⟩ := cols_loop cols hl hs hw _ 0 u _ rfl (Nat.zero_le _) u3 (by simp; omega)
  unfold cell_PutCols.f incipitref11_PutCols.f
  simp only [wrap_len _ hl]
  exact ⟨r, bind1 u1 r1, bind1 u2 r2⟩
theorem row_loop (l : List S56) (hl : l.length ≤ 100) (hs : ∀ x ∈ l, x.f2.size ≤ 5000) (hw : ∀ x ∈ l, (Lit.int .i64 x.f1).wf = true) : ∀ (d i : Nat) (b : List Int) (m : Nat), l.length - i = d → i ≤ l.length → Good b m → m + d * 6000 ≤ 1000000000 →
    ∃ r, Ev (fun k => cell_Put.l0 k b l (l.length : Int) (i : Int)) r ∧ Ev (fun k => incipitref11_Put.l0 k l b (i : Int)) r := by
  intro d
  induction d with
  | zero =>
    intro i b m hd hi hb hm
    refine ⟨b, ?_, ?_⟩
    · refine ev1 _ (fun k => by simp only [cell_Put.l0]; rfl) ?_
      simp only [if_neg (show ¬ (i : Int) < (l.length : Int) by omega)]
      exact Ev.now _
    · refine ev1 _ (fun k => by simp only [incipitref11_Put.l0]; rfl) ?_
      simp only [if_neg (show ¬ (i : Int) < (l.length : Int) by omega)]
      exact Ev.now _
  | succ d ih =>
    intro i b m hd hi hb hm
    have hlt : i < l.length := by omega
    have hwi := wf64 (hw _ (List.getElem_mem hlt))
    have hw1 : wrap64 ((i : Int) + 1) = ((i + 1 : Nat) : Int) := by rw [w64 (by omega) (by omega)]; omega
    by_cases hk : l[i].f0 = 1
    · obtain ⟨x, x1, x2, x3, x4⟩ := fold_eq l[i].f1 hwi.1 hwi.2
      obtain ⟨u, u1, u2, u3⟩ := nums_good b m [1, x] hb (okU2 (by omega) ⟨x3, x4⟩) (by simp; omega)
      obtain ⟨r, r1, r2⟩ := ih (i + 1) u _ (by omega) (by omega) u3 (by simp; omega)
      refine ⟨r, ?_, ?_⟩
      · refine ev1 _ (fun k => by simp only [cell_Put.l0]; rfl) ?_
        simp only [if_pos (show (i : Int) < (l.length : Int) by omega), if_pos (show (0 : Int) ≤ (i : Int) by omega), rd_cell l i hlt, if_pos hk]
        refine bind1 x1 ?_
        refine bind1 u1 ?_
        simp only [hw1]
        exact r1
      · refine ev1 _ (fun k => by simp only [incipitref11_Put.l0]; rfl) ?_
        simp only [if_pos (show (i : Int) < (l.length : Int) by omega), if_pos (show (0 : Int) ≤ (i : Int) by omega), rd_cell l i hlt, if_pos hk]
        refine bind1 x2 ?_
        refine bind1 u2 ?_
        simp only [hw1]
        exact r2
    · obtain ⟨t, t1, t2, t3⟩ := nums_good b m [2] hb (okU1 (by omega)) (by simp; omega)
      obtain ⟨u, u1, u2, u3⟩ := text_good t _ l[i].f2 t3 (hs _ (List.getElem_mem hlt)) (by simp; omega)
      obtain ⟨r, r1, r2⟩ := ih (i + 1) u _ (by omega) (by omega) u3 (by simp; omega)
      refine ⟨r, ?_, ?_⟩
      · refine ev1 _ (fun k => by simp only [cell_Put.l0]; rfl) ?_
        simp only [if_pos (show (i : Int) < (l.length : Int) by omega), if_pos (show (0 : Int) ≤ (i : Int) by omega), rd_cell l i hlt, if_neg hk]
        refine bind1 t1 ?_
        refine bind1 u1 ?_
        simp only [hw1]
        exact r1
      · refine ev1 _ (fun k => by simp only [incipitref11_Put.l0]; rfl) ?_
        simp only [if_pos (show (i : Int) < (l.length : Int) by omega), if_pos (show (0 : Int) ≤ (i : Int) by omega), rd_cell l i hlt, if_neg hk]
        refine bind1 t2 ?_
        refine bind1 u2 ?_
        simp only [hw1]
        exact r2
theorem row_same (b : List Int) (since : Int) (l : List S56) (hb : Good b 5000) (h64 : 0 ≤ since ∧ since < 18446744073709551616) (hl : l.length ≤ 100) (hs : ∀ x ∈ l, x.f2.size ≤ 5000) (hw : ∀ x ∈ l, (Lit.int .i64 x.f1).wf = true) :
    ∃ r, Ev (fun k => cell_Put.f k b since l) r ∧ Ev (fun k => incipitref11_Put.f k b since l) r := by
  obtain ⟨u, u1, u2, u3⟩ := nums_good b 5000 [since, (l.length : Int)] hb (okU2 h64 (by omega)) (by simp)
  obtain ⟨r, r1, r2⟩ := row_loop l hl hs hw _ 0 u _ rfl (Nat.zero_le _) u3 (by simp; omega)
  unfold cell_Put.f incipitref11_Put.f
  simp only [wrap_len _ hl]
  exact ⟨r, bind1 u1 r1, bind1 u2 r2⟩
theorem okB_wf {l : List Int} (h : ∀ x ∈ l, (Lit.int .u8 x).wf = true) : okB l = true := by
  refine List.all_eq_true.2 fun x hx => decide_eq_true ?_
  have := h x hx
  simp [Lit.wf] at this
  have h0 : IntKind.u8.min = 0 := by decide
  have h1 : IntKind.u8.max = 255 := by decide
  omega
theorem law_loop (l0 : List Int) (cols : List S39) (since : Int) (l : List S56) (hb : Good l0 5000) (hl : cols.length ≤ 100) (hw : ∀ x ∈ cols, (Lit.int .i64 x.f1).wf = true)
    (hend : (∀ x ∈ cols, x.f0.size ≤ 5000) → Ev (fun k => incipitlaw11_CellPuts.l0 k l0 cols since l (cols.length : Int)) true) : ∀ (d i : Nat), cols.length - i = d → i ≤ cols.length → (∀ j (h : j < cols.length), j < i → cols[j].f0.size ≤ 5000) →
    Ev (fun k => incipitlaw11_CellPuts.l0 k l0 cols since l (i : Int)) true := by
  intro d
  induction d with
  | zero =>
    intro i hd hi hj
    have e : i = cols.length := by omega
    subst e
    refine hend fun x hx => ?_
    obtain ⟨j, hj', rfl⟩ := List.getElem_of_mem hx
    exact hj j hj' hj'
  | succ d ih =>
    intro i hd hi hj
    have hlt : i < cols.length := by omega
    have hw1 : wrap64 ((i : Int) + 1) = ((i + 1 : Nat) : Int) := by rw [w64 (by omega) (by omega)]; omega
    refine ev1 _ (fun k => by simp only [incipitlaw11_CellPuts.l0]; rfl) ?_
    by_cases hz : 5000 < cols[i].f0.size
    · simp only [if_pos (show (i : Int) < (cols.length : Int) by omega), if_pos (show (0 : Int) ≤ (i : Int) by omega), rd_col cols i hlt, if_pos (show (cols[i].f0.size : Int) > 5000 by omega)]
      exact Ev.bind awake11_ev (Ev.now _)
    · simp only [if_pos (show (i : Int) < (cols.length : Int) by omega), if_pos (show (0 : Int) ≤ (i : Int) by omega), rd_col cols i hlt, if_neg (show ¬ (cols[i].f0.size : Int) > 5000 by omega), hw1]
      refine ih (i + 1) (by omega) (by omega) fun j h h' => ?_
      rcases Nat.lt_succ_iff_lt_or_eq.1 h' with h2 | h2
      · exact hj j h h2
      · subst h2; omega
theorem CellPuts : incipitlaw11_CellPuts.Pure := by
  intro l0 cols since l hm0 hm1 hb hc hcx h64 hl hlx
  refine Ev.rounds (r := true) ?_
  unfold incipitlaw11_CellPuts.f
  have out : Ev (fun k => incipitlaw11_CellPuts.j0 k l0 cols since l true) true := by
    refine ev1 _ (fun k => by simp only [incipitlaw11_CellPuts.j0]; rfl) ?_
    simp only [if_true]
    exact Ev.bind awake11_ev (Ev.now _)
  by_cases h : (l0.length : Int) > 5000
  · simp only [if_pos h]; exact out
  simp only [if_neg h]
  by_cases h' : (cols.length : Int) > 100
  · simp only [if_pos h']; exact out
  simp only [if_neg h']
  obtain ⟨b, h1, h2⟩ := wide_ev l
  refine Ev.bind h1 ?_
  cases b with
  | true => exact out
  | false =>
    obtain ⟨h3, h4⟩ := h2 rfl
    have hg : Good l0 5000 := ⟨okB_wf hb, by omega⟩
    have hcw : ∀ x ∈ cols, (Lit.int .i64 x.f1).wf = true := fun x hx => (hcx x hx).2
    have hlw : ∀ x ∈ l, (Lit.int .i64 x.f1).wf = true := fun x hx => (hlx x hx).2.1
    have hls : ∀ x ∈ l, x.f2.size ≤ 5000 := fun x hx => by
      obtain ⟨j, hj, rfl⟩ := List.getElem_of_mem hx
      have := h4 j hj
      rwa [rd_cell l j hj] at this
    have hu : 0 ≤ since ∧ since < 18446744073709551616 := by
      have := h64
      simp [Lit.wf] at this
      have h0 : IntKind.u64.min = 0 := by decide
      have h1 : IntKind.u64.max = 18446744073709551615 := by decide
      omega
    refine ev1 _ (fun k => by simp only [incipitlaw11_CellPuts.j0]; rfl) ?_
    simp only [Bool.false_eq_true, if_false]
    refine law_loop l0 cols since l hg (by omega) hcw (fun hcs => ?_) _ 0 rfl (Nat.zero_le _) (fun j _ hj => absurd hj (Nat.not_lt_zero _))
    refine ev1 _ (fun k => by simp only [incipitlaw11_CellPuts.l0]; rfl) ?_
    simp only [if_neg (show ¬ (cols.length : Int) < (cols.length : Int) by omega)]
    refine bind1 rfl ?_
    simp only [List.length_nil, Nat.zero_add, if_pos (show l0.length < 140737488355328 by omega), List.nil_append]
    refine bind1 rfl ?_
    obtain ⟨r, f1, f2⟩ := cols_same l0 cols hg (by omega) hcs hcw
    obtain ⟨s, g1, g2⟩ := row_same l0 since l hg hu h3 hls hlw
    refine Ev.bind f1 ?_
    refine Ev.bind f2 ?_
    simp only [if_true]
    refine Ev.bind g1 ?_
    refine Ev.bind g2 ?_
    simp only [if_true]
    exact Ev.bind awake11_ev (Ev.now _)
end Go.Proofs.YtpgcepfecmkkaaaDoor.Pure
