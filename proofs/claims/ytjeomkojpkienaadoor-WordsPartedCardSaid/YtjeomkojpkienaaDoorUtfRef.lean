/-
  The plain law of texts: the document's functions on texts come to the same as the plain ones; the chapter's examples.
-/
import Derived.Test.YtjeomkojpkienaaDoorZAx
set_option linter.unusedVariables false
set_option linter.unusedSimpArgs false
namespace Go.Proofs.YtjeomkojpkienaaDoor.Ref
open Go.RowKit Go.Proofs.YtjeomkojpkienaaDoor Go.Proofs.YtjeomkojpkienaaDoorZ.ZA Go.Proofs.YtjeomkojpkienaaDoorW.PrintWords

theorem w64 {x : Int} (h1 : -9223372036854775808 ≤ x) (h2 : x ≤ 9223372036854775807) : wrap64 x = x := by unfold wrap64; omega
theorem wf64 {x : Int} (h : (Lit.int .i64 x).wf = true) : -9223372036854775808 ≤ x ∧ x ≤ 9223372036854775807 := by
  simp only [Lit.wf, Bool.and_eq_true, decide_eq_true_eq] at h
  exact h
theorem bt_nat (s : ByteArray) (i : Nat) : bt s (i : Int) = (((tb s).getD i 0).toNat : Int) := by
  unfold bt
  simp only [Int.toNat_natCast]
  split
  · rename_i h
    rw [List.getD_eq_getElem?_getD, List.getElem?_eq_getElem (by rw [tb_length]; exact h)]
    rfl
  · rename_i h
    rw [List.getD_eq_getElem?_getD, List.getElem?_eq_none (by rw [tb_length]; omega)]
    rfl
theorem text_eq (s t : ByteArray) : s.toList = t.toList ↔ tb s = tb t := by rw [Lib.toList_data, Lib.toList_data]; rfl
theorem tb_nums (xs : List Int) : tb (strOfNums xs) = xs.map fun n => UInt8.ofNat n.toNat := strOfNums_data xs
theorem tb_extract (s : ByteArray) (i j : Nat) : tb (s.extract i j) = ((tb s).drop i).take (j - i) := by
  rw [tb, ByteArray.data_extract, Array.toList_extract, List.extract_eq_take_drop]
  rfl
theorem tb_append (s t : ByteArray) : tb (s ++ t) = tb s ++ tb t := by simp [tb]
theorem tb_inj {s t : ByteArray} (h : tb s = tb t) : s = t := by rw [← st_tb s, ← st_tb t, h]

/-! ### a code point's bytes -/
def pointZ (c : Int) : Prop := (0 ≤ c ∧ c < 55296) ∨ (57343 < c ∧ c < 1114112)
theorem ref_point (c : Int) : ∃ b, incipitref08_Point.f c = some b ∧ (b = true ↔ pointZ c) := by
  unfold incipitref08_Point.f pointZ
  repeat' split
  all_goals exact ⟨_, rfl, by simp; omega⟩
theorem ref_bytes (c : Int) (h : pointZ c) : incipitref08_Bytes.f c = some (strOfNums (Lib.encodeRuneZ c)) := by
  unfold pointZ at h
  unfold incipitref08_Bytes.f Lib.encodeRuneZ
  by_cases c1 : c < 128
  · rw [if_pos c1, if_pos (by omega)]
    congr 2
    simp; omega
  rw [if_neg c1, if_neg (show ¬ (0 ≤ c ∧ c ≤ 127) by omega)]
  have d1 : Int.tdiv c 64 = c / 64 := Int.tdiv_eq_ediv_of_nonneg (by omega)
  have d2 : Int.tdiv c 4096 = c / 4096 := Int.tdiv_eq_ediv_of_nonneg (by omega)
  have d3 : Int.tdiv c 262144 = c / 262144 := Int.tdiv_eq_ediv_of_nonneg (by omega)
  have m1 : Int.tmod c 64 = c % 64 := Int.tmod_eq_emod_of_nonneg (by omega)
  rw [d1, d2, d3, m1, w64 (x := c / 64) (by omega) (by omega), w64 (x := c / 4096) (by omega) (by omega), w64 (x := c / 262144) (by omega) (by omega)]
  have m2 : Int.tmod (c / 64) 64 = c / 64 % 64 := Int.tmod_eq_emod_of_nonneg (by omega)
  have m3 : Int.tmod (c / 4096) 64 = c / 4096 % 64 := Int.tmod_eq_emod_of_nonneg (by omega)
  rw [m2, m3]
  by_cases c2 : c < 2048
  · rw [if_pos c2, if_pos (show 128 ≤ c ∧ c ≤ 2047 by omega), w64 (x := 192 + c / 64) (by omega) (by omega), w64 (x := 128 + c % 64) (by omega) (by omega)]
    congr 2
    simp only [List.cons.injEq, and_true]
    omega
  rw [if_neg c2, if_neg (show ¬ (128 ≤ c ∧ c ≤ 2047) by omega)]
  by_cases c3 : c < 65536
  · rw [if_pos c3, if_pos (show (2048 ≤ c ∧ c < 55296) ∨ (57343 < c ∧ c ≤ 65535) by omega), w64 (x := 224 + c / 4096) (by omega) (by omega), w64 (x := 128 + c / 64 % 64) (by omega) (by omega), w64 (x := 128 + c % 64) (by omega) (by omega)]
    congr 2
    simp only [List.cons.injEq, and_true]
    omega
  rw [if_neg c3, if_neg (show ¬ ((2048 ≤ c ∧ c < 55296) ∨ (57343 < c ∧ c ≤ 65535)) by omega), if_pos (show 65536 ≤ c ∧ c ≤ 1114111 by omega), w64 (x := 240 + c / 262144) (by omega) (by omega), w64 (x := 128 + c / 4096 % 64) (by omega) (by omega), w64 (x := 128 + c / 64 % 64) (by omega) (by omega), w64 (x := 128 + c % 64) (by omega) (by omega)]
  congr 2
  simp only [List.cons.injEq, and_true]
  omega
theorem byte_eq (z : Int) (x : UInt8) (h : 0 ≤ z ∧ z < 256) : UInt8.ofNat z.toNat = x ↔ z = (x.toNat : Int) := by
  constructor
  · intro e; rw [← e]; simp; omega
  · intro e; subst e; simp
/-- Just one byte is the code point's text. -/
theorem enc1 (c : Int) (h : pointZ c) (a : UInt8) : (Lib.encodeRuneZ c).map (fun n => UInt8.ofNat n.toNat) = [a] ↔ c ≤ 127 ∧ c = (a.toNat : Int) := by
  unfold pointZ at h
  unfold Lib.encodeRuneZ
  repeat' split
  · simp only [List.map_cons, List.map_nil, List.cons.injEq, and_true]; rw [byte_eq _ _ (by omega)]; omega
  all_goals (simp only [List.map_cons, List.map_nil, List.cons.injEq, reduceCtorEq, and_false, false_iff, not_and]; omega)
theorem enc2 (c : Int) (h : pointZ c) (a b : UInt8) : (Lib.encodeRuneZ c).map (fun n => UInt8.ofNat n.toNat) = [a, b] ↔ 128 ≤ c ∧ c ≤ 2047 ∧ 192 + c / 64 = (a.toNat : Int) ∧ 128 + c % 64 = (b.toNat : Int) := by
  unfold pointZ at h
  unfold Lib.encodeRuneZ
  repeat' split
  · simp only [List.map_cons, List.map_nil, List.cons.injEq, reduceCtorEq, and_false, false_iff, not_and]; omega
  · simp only [List.map_cons, List.map_nil, List.cons.injEq, and_true]; rw [byte_eq _ _ (by omega), byte_eq _ _ (by omega)]; omega
  all_goals (simp only [List.map_cons, List.map_nil, List.cons.injEq, reduceCtorEq, and_false, false_iff, not_and]; omega)
theorem enc3 (c : Int) (h : pointZ c) (a b d : UInt8) : (Lib.encodeRuneZ c).map (fun n => UInt8.ofNat n.toNat) = [a, b, d] ↔ 2048 ≤ c ∧ c ≤ 65535 ∧ 224 + c / 4096 = (a.toNat : Int) ∧ 128 + c / 64 % 64 = (b.toNat : Int) ∧ 128 + c % 64 = (d.toNat : Int) := by
  unfold pointZ at h
  unfold Lib.encodeRuneZ
  repeat' split
  · simp only [List.map_cons, List.map_nil, List.cons.injEq, reduceCtorEq, and_false, false_iff, not_and]; omega
  · simp only [List.map_cons, List.map_nil, List.cons.injEq, reduceCtorEq, and_false, false_iff, not_and]; omega
  · simp only [List.map_cons, List.map_nil, List.cons.injEq, and_true]; rw [byte_eq _ _ (by omega), byte_eq _ _ (by omega), byte_eq _ _ (by omega)]; omega
  · simp only [List.map_cons, List.map_nil, List.cons.injEq, reduceCtorEq, and_false, false_iff, not_and]; omega
  · omega
theorem enc4 (c : Int) (h : pointZ c) (a b d e : UInt8) : (Lib.encodeRuneZ c).map (fun n => UInt8.ofNat n.toNat) = [a, b, d, e] ↔ 65536 ≤ c ∧ 240 + c / 262144 = (a.toNat : Int) ∧ 128 + c / 4096 % 64 = (b.toNat : Int) ∧ 128 + c / 64 % 64 = (d.toNat : Int) ∧ 128 + c % 64 = (e.toNat : Int) := by
  unfold pointZ at h
  unfold Lib.encodeRuneZ
  repeat' split
  · simp only [List.map_cons, List.map_nil, List.cons.injEq, reduceCtorEq, and_false, false_iff, not_and]; omega
  · simp only [List.map_cons, List.map_nil, List.cons.injEq, reduceCtorEq, and_false, false_iff, not_and]; omega
  · simp only [List.map_cons, List.map_nil, List.cons.injEq, reduceCtorEq, and_false, false_iff, not_and]; omega
  · simp only [List.map_cons, List.map_nil, List.cons.injEq, and_true]; rw [byte_eq _ _ (by omega), byte_eq _ _ (by omega), byte_eq _ _ (by omega), byte_eq _ _ (by omega)]; omega
  · omega
/-- The number that n bytes would have. -/
def num1 (a : UInt8) : Int := (a.toNat : Int)
def num2 (a b : UInt8) : Int := 64 * ((a.toNat : Int) - 192) + (b.toNat : Int) - 128
def num3 (a b c : UInt8) : Int := 64 * (64 * ((a.toNat : Int) - 224) + (b.toNat : Int) - 128) + (c.toNat : Int) - 128
def num4 (a b c d : UInt8) : Int := 64 * (64 * (64 * ((a.toNat : Int) - 240) + (b.toNat : Int) - 128) + (c.toNat : Int) - 128) + (d.toNat : Int) - 128
/-- What the document asks of n bytes at the front. -/
def fitsN (c : Int) (xs : List UInt8) : Prop := pointZ c ∧ (Lib.encodeRuneZ c).map (fun n => UInt8.ofNat n.toNat) = xs
theorem fits1 (a : UInt8) (r : List UInt8) : fitsN (num1 a) [a] ↔ nxt (a :: r) = (a.toNat, 1) := by
  have ha := a.toNat_lt
  unfold fitsN num1
  constructor
  · rintro ⟨h1, h2⟩
    rw [enc1 _ h1] at h2
    unfold nxt
    exact nx_one _ _ _ _ _ (by simp) (by simp only [List.getD_cons_zero]; omega)
  · intro h
    unfold nxt at h
    simp only [List.length_cons, List.getD_cons_zero, List.getD_cons_succ] at h
    have hp : pointZ (a.toNat : Int) := by unfold pointZ; omega
    refine ⟨hp, (enc1 _ hp a).2 ⟨?_, rfl⟩⟩
    rcases nx_shape (r.length + 1) a.toNat (r.getD 0 0).toNat (r.getD 1 0).toNat (r.getD 2 0).toNat with ⟨c0, c, e⟩ | ⟨c1, c2, c3, cv, e⟩ | ⟨c1, c2, c3, c4, cv, cs, e⟩ | ⟨c1, c2, c3, c4, c5, cv, cw, e⟩ | ⟨e, _⟩
    · omega
    all_goals (rw [e] at h; exact absurd (congrArg Prod.snd h) (by simp))
theorem fits2 (a b : UInt8) (r : List UInt8) : fitsN (num2 a b) [a, b] ↔ (nxt (a :: b :: r)).2 = 2 ∧ ((nxt (a :: b :: r)).1 : Int) = num2 a b := by
  have ha := a.toNat_lt
  have hb := b.toNat_lt
  unfold fitsN num2
  unfold nxt
  simp only [List.length_cons, List.getD_cons_zero, List.getD_cons_succ]
  constructor
  · rintro ⟨h1, h2⟩
    rw [enc2 _ h1] at h2
    rw [nx_two _ _ _ _ _ ⟨by omega, by omega, by omega, by omega⟩]
    exact ⟨rfl, by simp only; omega⟩
  · rintro ⟨h, h'⟩
    rcases nx_shape (r.length + 1 + 1) a.toNat b.toNat (r.getD 0 0).toNat (r.getD 1 0).toNat with ⟨c0, c, e⟩ | ⟨c1, c2, c3, cv, e⟩ | ⟨c1, c2, c3, c4, cv, cs, e⟩ | ⟨c1, c2, c3, c4, c5, cv, cw, e⟩ | ⟨e, _⟩
    all_goals (rw [e] at h h'; simp only at h h')
    · omega
    · have hp : pointZ (64 * ((a.toNat : Int) - 192) + (b.toNat : Int) - 128) := by unfold pointZ; omega
      exact ⟨hp, (enc2 _ hp a b).2 ⟨by omega, by omega, by omega, by omega⟩⟩
    all_goals omega
theorem fits3 (a b c : UInt8) (r : List UInt8) : fitsN (num3 a b c) [a, b, c] ↔ (nxt (a :: b :: c :: r)).2 = 3 ∧ ((nxt (a :: b :: c :: r)).1 : Int) = num3 a b c := by
  have ha := a.toNat_lt
  have hb := b.toNat_lt
  have hc := c.toNat_lt
  unfold fitsN num3
  unfold nxt
  simp only [List.length_cons, List.getD_cons_zero, List.getD_cons_succ]
  constructor
  · rintro ⟨h1, h2⟩
    have h1' := h1
    unfold pointZ at h1'
    rw [enc3 _ h1] at h2
    rw [nx_three _ _ _ _ _ ⟨by omega, by omega, by omega, by omega, by omega, by omega⟩]
    exact ⟨rfl, by simp only; omega⟩
  · rintro ⟨h, h'⟩
    rcases nx_shape (r.length + 1 + 1 + 1) a.toNat b.toNat c.toNat (r.getD 0 0).toNat with ⟨c0, c, e⟩ | ⟨c1, c2, c3, cv, e⟩ | ⟨c1, c2, c3, c4, cv, cs, e⟩ | ⟨c1, c2, c3, c4, c5, cv, cw, e⟩ | ⟨e, _⟩
    all_goals (rw [e] at h h'; simp only at h h')
    · omega
    · omega
    · have hp : pointZ (64 * (64 * ((a.toNat : Int) - 224) + (b.toNat : Int) - 128) + (c.toNat : Int) - 128) := by unfold pointZ; omega
      exact ⟨hp, (enc3 _ hp a b c).2 ⟨by omega, by omega, by omega, by omega, by omega⟩⟩
    all_goals omega
theorem fits4 (a b c d : UInt8) (r : List UInt8) : fitsN (num4 a b c d) [a, b, c, d] ↔ (nxt (a :: b :: c :: d :: r)).2 = 4 ∧ ((nxt (a :: b :: c :: d :: r)).1 : Int) = num4 a b c d := by
  have ha := a.toNat_lt
  have hb := b.toNat_lt
  have hc := c.toNat_lt
  have hd := d.toNat_lt
  unfold fitsN num4
  unfold nxt
  simp only [List.length_cons, List.getD_cons_zero, List.getD_cons_succ]
  constructor
  · rintro ⟨h1, h2⟩
    have h1' := h1
    unfold pointZ at h1'
    rw [enc4 _ h1] at h2
    rw [nx_four _ _ _ _ _ ⟨by omega, by omega, by omega, by omega, by omega, by omega, by omega⟩]
    exact ⟨rfl, by simp only; omega⟩
  · rintro ⟨h, h'⟩
    rcases nx_shape (r.length + 1 + 1 + 1 + 1) a.toNat b.toNat c.toNat d.toNat with ⟨c0, c, e⟩ | ⟨c1, c2, c3, cv, e⟩ | ⟨c1, c2, c3, c4, cv, cs, e⟩ | ⟨c1, c2, c3, c4, c5, cv, cw, e⟩ | ⟨e, _⟩
    all_goals (rw [e] at h h'; simp only at h h')
    · omega
    · omega
    · omega
    · have hp : pointZ (64 * (64 * (64 * ((a.toNat : Int) - 240) + (b.toNat : Int) - 128) + (c.toNat : Int) - 128) + (d.toNat : Int) - 128) := by unfold pointZ; omega
      exact ⟨hp, (enc4 _ hp a b c d).2 ⟨by omega, by omega, by omega, by omega, by omega⟩⟩
    all_goals omega
/-- What stands at the front is just the number of its bytes. -/
theorem nxt_num (l : List UInt8) : (nxt l).2 = 0 ∨ (∃ a r, l = a :: r ∧ (nxt l).2 = 1 ∧ ((nxt l).1 : Int) = num1 a) ∨ (∃ a b r, l = a :: b :: r ∧ (nxt l).2 = 2 ∧ ((nxt l).1 : Int) = num2 a b) ∨ (∃ a b c r, l = a :: b :: c :: r ∧ (nxt l).2 = 3 ∧ ((nxt l).1 : Int) = num3 a b c) ∨ (∃ a b c d r, l = a :: b :: c :: d :: r ∧ (nxt l).2 = 4 ∧ ((nxt l).1 : Int) = num4 a b c d) := by
  have hle := nxt_le l
  rcases shape4 l (nxt l).2 hle.1 hle.2 with h0 | ⟨a, r, h1, e⟩ | ⟨a, b, r, h1, e⟩ | ⟨a, b, c, r, h1, e⟩ | ⟨a, b, c, d, r, h1, e⟩
  · exact .inl h0
  · refine .inr (.inl ⟨a, r, e, h1, ?_⟩)
    subst e
    have ha := a.toNat_lt
    unfold nxt at h1 ⊢
    simp only [List.length_cons, List.getD_cons_zero, List.getD_cons_succ] at h1 ⊢
    unfold num1
    rcases nx_shape (r.length + 1) a.toNat (r.getD 0 0).toNat (r.getD 1 0).toNat (r.getD 2 0).toNat with ⟨c0, c, e⟩ | ⟨c1, c2, c3, cv, e⟩ | ⟨c1, c2, c3, c4, cv, cs, e⟩ | ⟨c1, c2, c3, c4, c5, cv, cw, e⟩ | ⟨e, _⟩
    all_goals first | (rw [e] at h1 ⊢; done) | (rw [e] at h1 ⊢; simp only at h1; first | rfl | omega | (simp only; omega))
  · refine .inr (.inr (.inl ⟨a, b, r, e, h1, ?_⟩))
    subst e
    have ha := a.toNat_lt
    have hb := b.toNat_lt
    unfold nxt at h1 ⊢
    simp only [List.length_cons, List.getD_cons_zero, List.getD_cons_succ] at h1 ⊢
    unfold num2
    rcases nx_shape (r.length + 1 + 1) a.toNat b.toNat (r.getD 0 0).toNat (r.getD 1 0).toNat with ⟨c0, c, e⟩ | ⟨c1, c2, c3, cv, e⟩ | ⟨c1, c2, c3, c4, cv, cs, e⟩ | ⟨c1, c2, c3, c4, c5, cv, cw, e⟩ | ⟨e, _⟩
    all_goals (rw [e] at h1 ⊢; simp only at h1; first | rfl | omega | (simp only; omega))
  · refine .inr (.inr (.inr (.inl ⟨a, b, c, r, e, h1, ?_⟩)))
    subst e
    have ha := a.toNat_lt
    have hb := b.toNat_lt
    have hc := c.toNat_lt
    unfold nxt at h1 ⊢
    simp only [List.length_cons, List.getD_cons_zero, List.getD_cons_succ] at h1 ⊢
    unfold num3
    rcases nx_shape (r.length + 1 + 1 + 1) a.toNat b.toNat c.toNat (r.getD 0 0).toNat with ⟨c0, c, e⟩ | ⟨c1, c2, c3, cv, e⟩ | ⟨c1, c2, c3, c4, cv, cs, e⟩ | ⟨c1, c2, c3, c4, c5, cv, cw, e⟩ | ⟨e, _⟩
    all_goals (rw [e] at h1 ⊢; simp only at h1; first | rfl | omega | (simp only; omega))
  · refine .inr (.inr (.inr (.inr ⟨a, b, c, d, r, e, h1, ?_⟩)))
    subst e
    have ha := a.toNat_lt
    have hb := b.toNat_lt
    have hc := c.toNat_lt
    have hd := d.toNat_lt
    unfold nxt at h1 ⊢
    simp only [List.length_cons, List.getD_cons_zero, List.getD_cons_succ] at h1 ⊢
    unfold num4
    rcases nx_shape (r.length + 1 + 1 + 1 + 1) a.toNat b.toNat c.toNat d.toNat with ⟨c0, c, e⟩ | ⟨c1, c2, c3, cv, e⟩ | ⟨c1, c2, c3, c4, cv, cs, e⟩ | ⟨c1, c2, c3, c4, c5, cv, cw, e⟩ | ⟨e, _⟩
    all_goals (rw [e] at h1 ⊢; simp only at h1; first | rfl | omega | (simp only; omega))
/-- A loop's round. -/
theorem ev1 {α : Type} {g : Nat → Option α} {r : α} (f : Nat → Option α) (h : ∀ k, g (k + 1) = f k) (k : Ev f r) : Ev g r := Ev.step h k
theorem bind1 {α β : Type} {x : Option α} {a : α} {f : Nat → α → Option β} {r : β} (h : x = some a) (k : Ev (fun n => f n a) r) : Ev (fun n => x.bind (f n)) r := by
  rw [h]; exact k
def firsts : List Int := [0, 192, 224, 240]
theorem byte_wrap (s : ByteArray) (i : Int) : wrap64 (bt s i) = bt s i := by
  unfold bt
  split
  · have := UInt8.toNat_lt (s[i.toNat]'(by assumption)); exact w64 (by omega) (by omega)
  · exact w64 (by omega) (by omega)
/-- The loop's end: are these the bytes? -/
theorem ref_fits (s : ByteArray) (i n : Nat) (c : Int) (hs : s.size ≤ 140737488351232) (hn : i + n ≤ s.size) (r : Int × Int)
    (hyes : fitsN c (((tb s).drop i).take n) → r = (c, (n : Int))) (hno : ¬ fitsN c (((tb s).drop i).take n) → Ev (fun k => incipitref08_Next.l0 k s (i : Int) firsts (wrap64 ((n : Int) + 1))) r) :
    Ev (fun k => (incipitref08_Point.f c).bind fun t136 => (if t136 = true then ((incipitref08_Bytes.f c).bind fun t137 => (if 0 ≤ (i : Int) then (if (i : Int) ≤ (wrap64 ((i : Int) + (n : Int))) then (if (wrap64 ((i : Int) + (n : Int))) ≤ (s.size : Int) then (if t137.toList = (s.extract ((i : Int) : Int).toNat ((wrap64 ((i : Int) + (n : Int))) : Int).toNat).toList then (some (c, (n : Int))) else (incipitref08_Next.l0 k s (i : Int) firsts (wrap64 ((n : Int) + 1)))) else (none)) else (none)) else (none))) else (incipitref08_Next.l0 k s (i : Int) firsts (wrap64 ((n : Int) + 1))))) r := by
  obtain ⟨b, hb, hp⟩ := ref_point c
  refine bind1 hb ?_
  rw [w64 (x := (i : Int) + (n : Int)) (by omega) (by omega)]
  cases b with
  | false =>
    simp only [Bool.false_eq_true, if_false]
    exact hno fun h => by have := hp.2 h.1; simp at this
  | true =>
    simp only [if_true]
    have hpt := hp.1 rfl
    refine bind1 (ref_bytes c hpt) ?_
    simp only [if_pos (show (0 : Int) ≤ (i : Int) by omega), if_pos (show (i : Int) ≤ (i : Int) + (n : Int) by omega), if_pos (show (i : Int) + (n : Int) ≤ (s.size : Int) by omega)]
    have e1 : (strOfNums (Lib.encodeRuneZ c)).toList = (s.extract ((i : Int)).toNat ((i : Int) + (n : Int)).toNat).toList ↔ fitsN c (((tb s).drop i).take n) := by
      have q : ((i : Int) + (n : Int)).toNat = i + n := by omega
      rw [text_eq, tb_nums, tb_extract, q, Int.toNat_natCast, Nat.add_sub_cancel_left]
      exact ⟨fun h => ⟨hpt, h⟩, fun h => h.2⟩
    by_cases hf : fitsN c (((tb s).drop i).take n)
    · simp only [if_pos (e1.2 hf)]
      rw [hyes hf]
      exact Ev.now _
    · simp only [if_neg (mt e1.1 hf)]
      exact hno hf
theorem l1_go (s : ByteArray) (i n j : Nat) (c : Int) (hs : s.size ≤ 140737488351232) (hj : j < n) (hn4 : n ≤ 4) (hi : i + n ≤ s.size) (h1 : -100000000 ≤ c) (h2 : c ≤ 100000000) (r : Int × Int)
    (h : Ev (fun k => incipitref08_Next.l1 k s (i : Int) firsts (n : Int) (64 * c + (((tb s).getD (i + j) 0).toNat : Int) - 128) ((j + 1 : Nat) : Int)) r) :
    Ev (fun k => incipitref08_Next.l1 k s (i : Int) firsts (n : Int) c (j : Int)) r := by
  have hb := ((tb s).getD (i + j) 0).toNat_lt
  refine ev1 _ (fun k => by simp only [incipitref08_Next.l1]; rfl) ?_
  have e : wrap64 ((i : Int) + (j : Int)) = ((i + j : Nat) : Int) := by rw [w64 (by omega) (by omega)]; omega
  simp only [if_pos (show (j : Int) < (n : Int) by omega), e, if_pos (show (0 : Int) ≤ ((i + j : Nat) : Int) by omega), if_pos (show ((i + j : Nat) : Int) < (s.size : Int) by omega)]
  rw [byte_wrap, bt_nat, w64 (x := 64 * c) (by omega) (by omega), w64 (x := 64 * c + _) (by omega) (by omega), w64 (x := 64 * c + _ - 128) (by omega) (by omega), w64 (x := (j : Int) + 1) (by omega) (by omega)]
  exact h
theorem l1_end (s : ByteArray) (i n : Nat) (c : Int) (hs : s.size ≤ 140737488351232) (hi : i + n ≤ s.size) (r : Int × Int)
    (hyes : fitsN c (((tb s).drop i).take n) → r = (c, (n : Int))) (hno : ¬ fitsN c (((tb s).drop i).take n) → Ev (fun k => incipitref08_Next.l0 k s (i : Int) firsts (wrap64 ((n : Int) + 1))) r) :
    Ev (fun k => incipitref08_Next.l1 k s (i : Int) firsts (n : Int) c (n : Int)) r := by
  refine ev1 _ (fun k => by simp only [incipitref08_Next.l1]; rfl) ?_
  simp only [if_neg (show ¬ (n : Int) < (n : Int) by omega)]
  exact ref_fits s i n c hs hi r hyes hno
/-- One size: n bytes, from the first byte's number on. -/
theorem l0_go (s : ByteArray) (i n : Nat) (hs : s.size ≤ 140737488351232) (h0 : 0 < n) (hn4 : n ≤ 4) (hi : i + n ≤ s.size) (r : Int × Int)
    (h : Ev (fun k => incipitref08_Next.l1 k s (i : Int) firsts (n : Int) ((((tb s).getD i 0).toNat : Int) - rd firsts ((n - 1 : Nat) : Int)) 1) r) : Ev (fun k => incipitref08_Next.l0 k s (i : Int) firsts (n : Int)) r := by
  have hb := ((tb s).getD i 0).toNat_lt
  refine ev1 _ (fun k => by simp only [incipitref08_Next.l0]; rfl) ?_
  simp only [if_pos (show (n : Int) ≤ 4 by omega)]
  rw [w64 (x := (s.size : Int) - (i : Int)) (by omega) (by omega)]
  refine ev1 _ (fun k => by simp only [incipitref08_Next.j2]; rfl) ?_
  have e : wrap64 ((n : Int) - 1) = ((n - 1 : Nat) : Int) := by rw [w64 (by omega) (by omega)]; omega
  have hr : 0 ≤ rd firsts ((n - 1 : Nat) : Int) ∧ rd firsts ((n - 1 : Nat) : Int) ≤ 240 := by
    rcases (show n = 1 ∨ n = 2 ∨ n = 3 ∨ n = 4 by omega) with rfl | rfl | rfl | rfl <;> decide
  simp only [decide_eq_true (show (n : Int) ≤ (s.size : Int) - (i : Int) by omega), if_true, if_pos (show (0 : Int) ≤ (i : Int) by omega), if_pos (show (i : Int) < (s.size : Int) by omega), e, if_pos (show (0 : Int) ≤ ((n - 1 : Nat) : Int) by omega), if_pos (show ((n - 1 : Nat) : Int) < (firsts.length : Int) by simp [firsts]; omega)]
  rw [byte_wrap, bt_nat, w64 (by omega) (by omega)]
  exact h
theorem l0_stop (s : ByteArray) (i n : Nat) (hs : s.size ≤ 140737488351232) (hi : i ≤ s.size) (hn : 4 < n ∨ s.size < i + n) (hn6 : n ≤ 6) : Ev (fun k => incipitref08_Next.l0 k s (i : Int) firsts (n : Int)) (0, 0) := by
  refine ev1 _ (fun k => by simp only [incipitref08_Next.l0]; rfl) ?_
  rw [w64 (x := (s.size : Int) - (i : Int)) (by omega) (by omega)]
  by_cases h4 : (n : Int) ≤ 4
  · simp only [if_pos h4]
    refine ev1 _ (fun k => by simp only [incipitref08_Next.j2]; rfl) ?_
    simp only [decide_eq_false (show ¬ (n : Int) ≤ (s.size : Int) - (i : Int) by omega), Bool.false_eq_true, if_false]
    exact Ev.now _
  · simp only [if_neg h4]
    refine ev1 _ (fun k => by simp only [incipitref08_Next.j2]; rfl) ?_
    simp only [Bool.false_eq_true, if_false]
    exact Ev.now _
theorem drop_cons4 (s : ByteArray) (i : Nat) (l : List UInt8) (h : (tb s).drop i = l) : (∀ j, (tb s).getD (i + j) 0 = l.getD j 0) ∧ l.length = s.size - i := by
  subst h
  exact ⟨fun j => by rw [Lib.getD_dropU], by rw [List.length_drop, tb_length]⟩
theorem ref_next_in (s : ByteArray) (i : Nat) (hs : s.size ≤ 140737488351232) (hi : i < s.size) : Ev (fun k => incipitref08_Next.l0 k s (i : Int) firsts 1) (nextB s (i : Int)) := by
  rw [nextB_nat]
  obtain ⟨l, hl⟩ : ∃ l, (tb s).drop i = l := ⟨_, rfl⟩
  obtain ⟨hg, hlen⟩ := drop_cons4 s i l hl
  have hn := Go.Proofs.YtjeomkojpkienaaDoor.hid (nxt_num l)
  rw [hl]
  have g0 : (tb s).getD i 0 = l.getD 0 0 := hg 0
  have stop : ∀ n : Nat, (nxt l).2 = 0 → (4 < n ∨ s.size < i + n) → n ≤ 6 → Ev (fun k => incipitref08_Next.l0 k s (i : Int) firsts (n : Int)) (((nxt l).1 : Int), ((nxt l).2 : Int)) := by
    intro n hz h1 h2
    have e : nxt l = (0, 0) := by
      unfold nxt at hz ⊢
      rcases nx_shape l.length (l.getD 0 0).toNat (l.getD 1 0).toNat (l.getD 2 0).toNat (l.getD 3 0).toNat with ⟨c0, c, e⟩ | ⟨c1, c2, c3, cv, e⟩ | ⟨c1, c2, c3, c4, cv, cs, e⟩ | ⟨c1, c2, c3, c4, c5, cv, cw, e⟩ | ⟨e, _⟩
      all_goals first | exact e | (rw [e] at hz; simp at hz)
    rw [e]
    exact l0_stop s i n hs (by omega) h1 h2
  have t1 : wrap64 ((1 : Nat) + 1 : Int) = ((2 : Nat) : Int) := by decide +kernel
  have t2 : wrap64 ((2 : Nat) + 1 : Int) = ((3 : Nat) : Int) := by decide +kernel
  have t3 : wrap64 ((3 : Nat) + 1 : Int) = ((4 : Nat) : Int) := by decide +kernel
  have t4 : wrap64 ((4 : Nat) + 1 : Int) = ((5 : Nat) : Int) := by decide +kernel
  match l, hl, hg, hlen, hn, g0, stop with
  | [], _, _, hlen, _, _, _ => exact absurd (Nat.le_of_sub_eq_zero (show s.size - i = 0 from hlen.symm)) (Nat.not_le.2 hi)
  | a :: r, hl, hg, hlen, hn, g0, stop =>
    have hA := a.toNat_lt
    have g0 : (tb s).getD i 0 = a := g0
    have k0 : (tb s).getD (i + 0) 0 = a := hg 0
    refine l0_go s i 1 hs (by omega) (by omega) (by omega) _ ?_
    refine l1_end s i 1 _ hs (by omega) _ ?_ ?_
    · rw [hl, g0]
      intro hf
      rw [show (((a.toNat : Int) - rd firsts ((1 - 1 : Nat) : Int))) = num1 a by unfold num1; show _ - (0 : Int) = _; omega] at hf ⊢
      have := (fits1 a r).1 hf
      rw [this]; rfl
    · rw [hl, g0, t1]
      intro hf
      rw [show (((a.toNat : Int) - rd firsts ((1 - 1 : Nat) : Int))) = num1 a by unfold num1; show _ - (0 : Int) = _; omega] at hf
      have n1 : (nxt (a :: r)).2 ≠ 1 := by
        intro h
        rcases hn.out with h0 | ⟨a', r', e, h1, hc⟩ | ⟨a', b', r', e, h1, hc⟩ | ⟨a', b', c', r', e, h1, hc⟩ | ⟨a', b', c', d', r', e, h1, hc⟩
        · omega
        · cases e; exact hf ((fits1 a r).2 (Prod.ext (by unfold num1 at hc; omega) h))
        all_goals omega
      match r, hl, hg, hlen, hn, stop, n1 with
      | [], hl, hg, hlen, hn, stop, n1 =>
        simp at hlen
        refine stop 2 ?_ (by omega) (by omega)
        rcases hn.out with h0 | ⟨a', r', e, h1, hc⟩ | ⟨a', b', r', e, h1, hc⟩ | ⟨a', b', c', r', e, h1, hc⟩ | ⟨a', b', c', d', r', e, h1, hc⟩
        · exact h0
        · exact absurd h1 n1
        all_goals cases e
      | b :: r, hl, hg, hlen, hn, stop, n1 =>
        have hB := b.toNat_lt
        have g0 : (tb s).getD i 0 = a := g0
        have k1 : (tb s).getD (i + 1) 0 = b := hg 1
        simp only [List.length_cons] at hlen
        refine l0_go s i 2 hs (by omega) (by omega) (by omega) _ ?_
        rw [g0]
        have r2 : rd firsts ((2 - 1 : Nat) : Int) = 192 := rfl
        rw [r2]
        refine l1_go s i 2 1 _ hs (by omega) (by omega) (by omega) (by omega) (by omega) _ ?_
        rw [k1, show 64 * ((a.toNat : Int) - 192) + (b.toNat : Int) - 128 = num2 a b from rfl]
        refine l1_end s i 2 _ hs (by omega) _ ?_ ?_
        · rw [hl]
          intro hf
          obtain ⟨h1, h2⟩ := (fits2 a b r).1 hf
          rw [h1, h2]
        · rw [hl, t2]
          intro hf
          have n2 : (nxt (a :: b :: r)).2 ≠ 2 := by
            intro h
            rcases hn.out with h0 | ⟨a', r', e, h1, hc⟩ | ⟨a', b', r', e, h1, hc⟩ | ⟨a', b', c', r', e, h1, hc⟩ | ⟨a', b', c', d', r', e, h1, hc⟩
            · omega
            · omega
            · cases e; exact hf ((fits2 a b r).2 ⟨h, hc⟩)
            all_goals omega
          match r, hl, hg, hlen, hn, stop, n1, n2 with
          | [], hl, hg, hlen, hn, stop, n1, n2 =>
            simp at hlen
            refine stop 3 ?_ (by omega) (by omega)
            rcases hn.out with h0 | ⟨a', r', e, h1, hc⟩ | ⟨a', b', r', e, h1, hc⟩ | ⟨a', b', c', r', e, h1, hc⟩ | ⟨a', b', c', d', r', e, h1, hc⟩
            · exact h0
            · exact absurd h1 n1
            · exact absurd h1 n2
            all_goals cases e
          | c :: r, hl, hg, hlen, hn, stop, n1, n2 =>
            have hC := c.toNat_lt
            have g0 : (tb s).getD i 0 = a := g0
            have k2 : (tb s).getD (i + 2) 0 = c := hg 2
            simp only [List.length_cons] at hlen
            refine l0_go s i 3 hs (by omega) (by omega) (by omega) _ ?_
            rw [g0]
            have r3 : rd firsts ((3 - 1 : Nat) : Int) = 224 := rfl
            rw [r3]
            refine l1_go s i 3 1 _ hs (by omega) (by omega) (by omega) (by omega) (by omega) _ ?_
            rw [k1]
            refine l1_go s i 3 2 _ hs (by omega) (by omega) (by omega) (by omega) (by omega) _ ?_
            rw [k2, show 64 * (64 * ((a.toNat : Int) - 224) + (b.toNat : Int) - 128) + (c.toNat : Int) - 128 = num3 a b c from rfl]
            refine l1_end s i 3 _ hs (by omega) _ ?_ ?_
            · rw [hl]
              intro hf
              obtain ⟨h1, h2⟩ := (fits3 a b c r).1 hf
              rw [h1, h2]
            · rw [hl, t3]
              intro hf
              have n3 : (nxt (a :: b :: c :: r)).2 ≠ 3 := by
                intro h
                rcases hn.out with h0 | ⟨a', r', e, h1, hc⟩ | ⟨a', b', r', e, h1, hc⟩ | ⟨a', b', c', r', e, h1, hc⟩ | ⟨a', b', c', d', r', e, h1, hc⟩
                · omega
                · omega
                · omega
                · cases e; exact hf ((fits3 a b c r).2 ⟨h, hc⟩)
                · omega
              match r, hl, hg, hlen, hn, stop, n1, n2, n3 with
              | [], hl, hg, hlen, hn, stop, n1, n2, n3 =>
                simp at hlen
                refine stop 4 ?_ (by omega) (by omega)
                rcases hn.out with h0 | ⟨a', r', e, h1, hc⟩ | ⟨a', b', r', e, h1, hc⟩ | ⟨a', b', c', r', e, h1, hc⟩ | ⟨a', b', c', d', r', e, h1, hc⟩
                · exact h0
                · exact absurd h1 n1
                · exact absurd h1 n2
                · exact absurd h1 n3
                · cases e
              | d :: r, hl, hg, hlen, hn, stop, n1, n2, n3 =>
                have hD := d.toNat_lt
                have g0 : (tb s).getD i 0 = a := g0
                have k3 : (tb s).getD (i + 3) 0 = d := hg 3
                simp only [List.length_cons] at hlen
                refine l0_go s i 4 hs (by omega) (by omega) (by omega) _ ?_
                rw [g0]
                have r4 : rd firsts ((4 - 1 : Nat) : Int) = 240 := rfl
                rw [r4]
                refine l1_go s i 4 1 _ hs (by omega) (by omega) (by omega) (by omega) (by omega) _ ?_
                rw [k1]
                refine l1_go s i 4 2 _ hs (by omega) (by omega) (by omega) (by omega) (by omega) _ ?_
                rw [k2]
                refine l1_go s i 4 3 _ hs (by omega) (by omega) (by omega) (by omega) (by omega) _ ?_
                rw [k3, show 64 * (64 * (64 * ((a.toNat : Int) - 240) + (b.toNat : Int) - 128) + (c.toNat : Int) - 128) + (d.toNat : Int) - 128 = num4 a b c d from rfl]
                refine l1_end s i 4 _ hs (by omega) _ ?_ ?_
                · rw [hl]
                  intro hf
                  obtain ⟨h1, h2⟩ := (fits4 a b c d r).1 hf
                  rw [h1, h2]
                · rw [hl, t4]
                  intro hf
                  refine stop 5 ?_ (by omega) (by omega)
                  rcases hn.out with h0 | ⟨a', r', e, h1, hc⟩ | ⟨a', b', r', e, h1, hc⟩ | ⟨a', b', c', r', e, h1, hc⟩ | ⟨a', b', c', d', r', e, h1, hc⟩
                  · exact h0
                  · exact absurd h1 n1
                  · exact absurd h1 n2
                  · exact absurd h1 n3
                  · cases e; exact absurd ((fits4 a b c d r).2 ⟨h1, hc⟩) hf
/-- The document's Next is the plain one. -/
theorem ref_next (s : ByteArray) (i : Int) (hs : s.size ≤ 140737488351232) : Ev (fun k => incipitref08_Next.f k s i) (nextB s i) := by
  unfold incipitref08_Next.f
  by_cases h0 : i < 0
  · simp only [if_pos h0]
    refine ev1 _ (fun k => by simp only [incipitref08_Next.j0]; rfl) ?_
    simp only [if_true]
    rw [nextB_neg s i h0]
    exact Ev.now _
  · simp only [if_neg h0]
    obtain ⟨n, rfl⟩ := Int.eq_ofNat_of_zero_le (Int.not_lt.1 h0)
    refine ev1 _ (fun k => by simp only [incipitref08_Next.j0]; rfl) ?_
    by_cases h1 : s.size ≤ n
    · simp only [decide_eq_true (show (n : Int) ≥ (s.size : Int) by omega), if_true]
      rw [nextB_out s n h1]
      exact Ev.now _
    · simp only [decide_eq_false (show ¬ (n : Int) ≥ (s.size : Int) by omega), Bool.false_eq_true, if_false]
      exact ref_next_in s n hs (by omega)
end Go.Proofs.YtjeomkojpkienaaDoor.Ref
