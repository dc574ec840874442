/-
  CellFits: the plain law.
-/
import Derived.Test.YtpgcepfecmkkaaaDoorZAx
set_option linter.unusedVariables false
set_option linter.unusedSimpArgs false
namespace Go.Proofs.YtpgcepfecmkkaaaDoor.Ref
open Go.RowKit Go.Proofs.YtpgcepfecmkkaaaDoor Go.Proofs.YtpgcepfecmkkaaaDoorZ.ZA Go.Proofs.YtpgcepfecmkkaaaDoorW.PrintWords

theorem w64 {x : Int} (h1 : -9223372036854775808 ≤ x) (h2 : x ≤ 9223372036854775807) : wrap64 x = x := by unfold wrap64; omega
theorem bt_nat (s : ByteArray) (i : Nat) : bt s (i : Int) = (((tb s).getD i 0).toNat : Int) := by
  unfold bt
  simp only [Int.toNat_natCast]
  split
  · rename_i h
    rw [List.getD_eq_getElem?_getD, List.getElem?_eq_getElem (by rw [tb_length]; exact h)]
    rfl
  · rename_i h
    rw [List.getD_eq_getElem?_getD, List.getElem?_eq_none (by rw [tb_length]; omega)]
    rfl
theorem text_eq (s t : ByteArray) : s.toList = t.toList ↔ tb s = tb t := by rw [Lib.toList_data, Lib.toList_data]; rfl
theorem tb_nums (xs : List Int) : tb (strOfNums xs) = xs.map fun n => UInt8.ofNat n.toNat := strOfNums_data xs
theorem tb_extract (s : ByteArray) (i j : Nat) : tb (s.extract i j) = ((tb s).drop i).take (j - i) := by
  rw [tb, ByteArray.data_extract, Array.toList_extract, List.extract_eq_take_drop]
  rfl
/-! ### a code point's bytes -/
def pointZ (c : Int) : Prop := (0 ≤ c ∧ c < 55296) ∨ (57343 < c ∧ c < 1114112)
theorem ref_point (c : Int) : ∃ b, incipitref08_Point.f c = some b ∧ (b = true ↔ pointZ c) := by
  unfold incipitref08_Point.f pointZ
  repeat' split
  all_goals exact ⟨_, rfl, by simp; omega⟩
theorem ref_bytes (c : Int) (h : pointZ c) : incipitref08_Bytes.f c = some (strOfNums (Lib.encodeRuneZ c)) := by
  unfold pointZ at h
  unfold incipitref08_Bytes.f Lib.encodeRuneZ
  by_cases c1 : c < 128
  · rw [if_pos c1, if_pos (by omega)]
    congr 2
    simp; omega
  rw [if_neg c1, if_neg (show ¬ (0 ≤ c ∧ c ≤ 127) by omega)]
  have d1 : Int.tdiv c 64 = c / 64 := Int.tdiv_eq_ediv_of_nonneg (by omega)
  have d2 : Int.tdiv c 4096 = c / 4096 := Int.tdiv_eq_ediv_of_nonneg (by omega)
  have d3 : Int.tdiv c 262144 = c / 262144 := Int.tdiv_eq_ediv_of_nonneg (by omega)
  have m1 : Int.tmod c 64 = c % 64 := Int.tmod_eq_emod_of_nonneg (by omega)
  rw [d1, d2, d3, m1, w64 (x := c / 64) (by omega) (by omega), w64 (x := c / 4096) (by omega) (by omega), w64 (x := c / 262144) (by omega) (by omega)]
  have m2 : Int.tmod (c / 64) 64 = c / 64 % 64 := Int.tmod_eq_emod_of_nonneg (by omega)
  have m3 : Int.tmod (c / 4096) 64 = c / 4096 % 64 := Int.tmod_eq_emod_of_nonneg (by omega)
  rw [m2, m3]
  by_cases c2 : c < 2048
  · rw [if_pos c2, if_pos (show 128 ≤ c ∧ c ≤ 2047 by omega), w64 (x := 192 + c / 64) (by omega) (by omega), w64 (x := 128 + c % 64) (by omega) (by omega)]
    congr 2
    simp only [List.cons.injEq, and_true]
    omega
  rw [if_neg c2, if_neg (show ¬ (128 ≤ c ∧ c ≤ 2047) by omega)]
  by_cases c3 : c < 65536
  · rw [if_pos c3, if_pos (show (2048 ≤ c ∧ c < 55296) ∨ (57343 < c ∧ c ≤ 65535) by omega), w64 (x := 224 + c / 4096) (by omega) (by omega), w64 (x := 128 + c / 64 % 64) (by omega) (by omega), w64 (x := 128 + c % 64) (by omega) (by omega)]
    congr 2
    simp only [List.cons.injEq, and_true]
    omega
  rw [if_neg c3, if_neg (show ¬ ((2048 ≤ c ∧ c < 55296) ∨ (57343 < c ∧ c ≤ 65535)) by omega), if_pos (show 65536 ≤ c ∧ c ≤ 1114111 by omega), w64 (x := 240 + c / 262144) (by omega) (by omega), w64 (x := 128 + c / 4096 % 64) (by omega) (by omega), w64 (x := 128 + c / 64 % 64) (by omega) (by omega), w64 (x := 128 + c % 64) (by omega) (by omega)]
  congr 2
  simp only [List.cons.injEq, and_true]
  omega
theorem byte_eq (z : Int) (x : UInt8) (h : 0 ≤ z ∧ z < 256) : UInt8.ofNat z.toNat = x ↔ z = (x.toNat : Int) := by
  constructor
  · intro e; rw [← e]; simp; omega
  · intro e; subst e; simp
/-- Just one byte is the code point's text. -/
theorem enc1 (c : Int) (h : pointZ c) (a : UInt8) : (Lib.encodeRuneZ c).map (fun n => UInt8.ofNat n.toNat) = [a] ↔ c ≤ 127 ∧ c = (a.toNat : Int) := by
  unfold pointZ at h
  unfold Lib.encodeRuneZ
  repeat' split
  · simp only [List.map_cons, List.map_nil, List.cons.injEq, and_true]; rw [byte_eq _ _ (by omega)]; omega
  all_goals (simp only [List.map_cons, List.map_nil, List.cons.injEq, reduceCtorEq, and_false, false_iff, not_and]; omega)
theorem enc2 (c : Int) (h : pointZ c) (a b : UInt8) : (Lib.encodeRuneZ c).map (fun n => UInt8.ofNat n.toNat) = [a, b] ↔ 128 ≤ c ∧ c ≤ 2047 ∧ 192 + c / 64 = (a.toNat : Int) ∧ 128 + c % 64 = (b.toNat : Int) := by
  unfold pointZ at h
  unfold Lib.encodeRuneZ
  repeat' split
  · simp only [List.map_cons, List.map_nil, List.cons.injEq, reduceCtorEq, and_false, false_iff, not_and]; omega
  · simp only [List.map_cons, List.map_nil, List.cons.injEq, and_true]; rw [byte_eq _ _ (by omega), byte_eq _ _ (by omega)]; omega
  all_goals (simp only [List.map_cons, List.map_nil, List.cons.injEq, reduceCtorEq, and_false, false_iff, not_and]; omega)
theorem enc3 (c : Int) (h : pointZ c) (a b d : UInt8) : (Lib.encodeRuneZ c).map (fun n => UInt8.ofNat n.toNat) = [a, b, d] ↔ 2048 ≤ c ∧ c ≤ 65535 ∧ 224 + c / 4096 = (a.toNat : Int) ∧ 128 + c / 64 % 64 = (b.toNat : Int) ∧ 128 + c % 64 = (d.toNat : Int) := by
  unfold pointZ at h
  unfold Lib.encodeRuneZ
  repeat' split
  · simp only [List.map_cons, List.map_nil, List.cons.injEq, reduceCtorEq, and_false, false_iff, not_and]; omega
  · simp only [List.map_cons, List.map_nil, List.cons.injEq, reduceCtorEq, and_false, false_iff, not_and]; omega
  · simp only [List.map_cons, List.map_nil, List.cons.injEq, and_true]; rw [byte_eq _ _ (by omega), byte_eq _ _ (by omega), byte_eq _ _ (by omega)]; omega
  · simp only [List.map_cons, List.map_nil, List.cons.injEq, reduceCtorEq, and_false, false_iff, not_and]; omega
  · omega
theorem enc4 (c : Int) (h : pointZ c) (a b d e : UInt8) : (Lib.encodeRuneZ c).map (fun n => UInt8.ofNat n.toNat) = [a, b, d, e] ↔ 65536 ≤ c ∧ 240 + c / 262144 = (a.toNat : Int) ∧ 128 + c / 4096 % 64 = (b.toNat : Int) ∧ 128 + c / 64 % 64 = (d.toNat : Int) ∧ 128 + c % 64 = (e.toNat : Int) := by
  unfold pointZ at h
  unfold Lib.encodeRuneZ
  repeat' split
  · simp only [List.map_cons, List.map_nil, List.cons.injEq, reduceCtorEq, and_false, false_iff, not_and]; omega
  · simp only [List.map_cons, List.map_nil, List.cons.injEq, reduceCtorEq, and_false, false_iff, not_and]; omega
  · simp only [List.map_cons, List.map_nil, List.cons.injEq, reduceCtorEq, and_false, false_iff, not_and]; omega
  · simp only [List.map_cons, List.map_nil, List.cons.injEq, and_true]; rw [byte_eq _ _ (by omega), byte_eq _ _ (by omega), byte_eq _ _ (by omega), byte_eq _ _ (by omega)]; omega
  · omega
/-- The number that n bytes would have. -/
def num1 (a : UInt8) : Int := (a.toNat : Int)
def num2 (a b : UInt8) : Int := 64 * ((a.toNat : Int) - 192) + (b.toNat : Int) - 128
def num3 (a b c : UInt8) : Int := 64 * (64 * ((a.toNat : Int) - 224) + (b.toNat : Int) - 128) + (c.toNat : Int) - 128
def num4 (a b c d : UInt8) : Int := 64 * (64 * (64 * ((a.toNat : Int) - 240) + (b.toNat : Int) - 128) + (c.toNat : Int) - 128) + (d.toNat : Int) - 128
/-- What the document asks of n bytes at the front. -/
def fitsN (c : Int) (xs : List UInt8) : Prop := pointZ c ∧ (Lib.encodeRuneZ c).map (fun n => UInt8.ofNat n.toNat) = xs
theorem fits1 (a : UInt8) (r : List UInt8) : fitsN (num1 a) [a] ↔ nxt (a :: r) = (a.toNat, 1) := by
  have ha := a.toNat_lt
  unfold fitsN num1
  constructor
  · rintro ⟨h1, h2⟩
    rw [enc1 _ h1] at h2
    unfold nxt
    exact nx_one _ _ _ _ _ (by simp) (by simp only [List.getD_cons_zero]; omega)
  · intro h
    unfold nxt at h
    simp only [List.length_cons, List.getD_cons_zero, List.getD_cons_succ] at h
    have hp : pointZ (a.toNat : Int) := by unfold pointZ; omega
    refine ⟨hp, (enc1 _ hp a).2 ⟨?_, rfl⟩⟩
    rcases nx_shape (r.length + 1) a.toNat (r.getD 0 0).toNat (r.getD 1 0).toNat (r.getD 2 0).toNat with ⟨c0, c, e⟩ | ⟨c1, c2, c3, cv, e⟩ | ⟨c1, c2, c3, c4, cv, cs, e⟩ | ⟨c1, c2, c3, c4, c5, cv, cw, e⟩ | ⟨e, _⟩
    · omega
    all_goals (rw [e] at h; exact absurd (congrArg Prod.snd h) (by simp))
theorem fits2 (a b : UInt8) (r : List UInt8) : fitsN (num2 a b) [a, b] ↔ (nxt (a :: b :: r)).2 = 2 ∧ ((nxt (a :: b :: r)).1 : Int) = num2 a b := by
  have ha := a.toNat_lt
  have hb := b.toNat_lt
  unfold fitsN num2
  unfold nxt
  simp only [List.length_cons, List.getD_cons_zero, List.getD_cons_succ]
  constructor
  · rintro ⟨h1, h2⟩
    rw [enc2 _ h1] at h2
    rw [nx_two _ _ _ _ _ ⟨by omega, by omega, by omega, by omega⟩]
    exact ⟨rfl, by simp only; omega⟩
  · rintro ⟨h, h'⟩
    rcases nx_shape (r.length + 1 + 1) a.toNat b.toNat (r.getD 0 0).toNat (r.getD 1 0).toNat with ⟨c0, c, e⟩ | ⟨c1, c2, c3, cv, e⟩ | ⟨c1, c2, c3, c4, cv, cs, e⟩ | ⟨c1, c2, c3, c4, c5, cv, cw, e⟩ | ⟨e, _⟩
    all_goals (rw [e] at h h'; simp only at h h')
    · omega
    · have hp : pointZ (64 * ((a.toNat : Int) - 192) + (b.toNat : Int) - 128) := by unfold pointZ; omega
      exact ⟨hp, (enc2 _ hp a b).2 ⟨by omega, by omega, by omega, by omega⟩⟩
    all_goals omega
theorem fits3 (a b c : UInt8) (r : List UInt8) : fitsN (num3 a b c) [a, b, c] ↔ (nxt (a :: b :: c :: r)).2 = 3 ∧ ((nxt (a :: b :: c :: r)).1 : Int) = num3 a b c := by
  have ha := a.toNat_lt
  have hb := b.toNat_lt
  have hc := c.toNat_lt
  unfold fitsN num3
  unfold nxt
  simp only [List.length_cons, List.getD_cons_zero, List.getD_cons_succ]
  constructor
  · rintro ⟨h1, h2⟩
    have h1' := h1
    unfold pointZ at h1'
    rw [enc3 _ h1] at h2
    rw [nx_three _ _ _ _ _ ⟨by omega, by omega, by omega, by omega, by omega, by omega⟩]
    exact ⟨rfl, by simp only; omega⟩
  · rintro ⟨h, h'⟩
    rcases nx_shape (r.length + 1 + 1 + 1) a.toNat b.toNat c.toNat (r.getD 0 0).toNat with ⟨c0, c, e⟩ | ⟨c1, c2, c3, cv, e⟩ | ⟨c1, c2, c3, c4, cv, cs, e⟩ | ⟨c1, c2, c3, c4, c5, cv, cw, e⟩ | ⟨e, _⟩
    all_goals (rw [e] at h h'; simp only at h h')
    · omega
    · omega
    · have hp : pointZ (64 * (64 * ((a.toNat : Int) - 224) + (b.toNat : Int) - 128) + (c.toNat : Int) - 128) := by unfold pointZ; omega
      exact ⟨hp, (enc3 _ hp a b c).2 ⟨by omega, by omega, by omega, by omega, by omega⟩⟩
    all_goals omega
theorem fits4 (a b c d : UInt8) (r : List UInt8) : fitsN (num4 a b c d) [a, b, c, d] ↔ (nxt (a :: b :: c :: d :: r)).2 = 4 ∧ ((nxt (a :: b :: c :: d :: r)).1 : Int) = num4 a b c d := by
  have ha := a.toNat_lt
  have hb := b.toNat_lt
  have hc := c.toNat_lt
  have hd := d.toNat_lt
  unfold fitsN num4
  unfold nxt
  simp only [List.length_cons, List.getD_cons_zero, List.getD_cons_succ]
  constructor
  · rintro ⟨h1, h2⟩
    have h1' := h1
    unfold pointZ at h1'
    rw [enc4 _ h1] at h2
    rw [nx_four _ _ _ _ _ ⟨by omega, by omega, by omega, by omega, by omega, by omega, by omega⟩]
    exact ⟨rfl, by simp only; omega⟩
  · rintro ⟨h, h'⟩
    rcases nx_shape (r.length + 1 + 1 + 1 + 1) a.toNat b.toNat c.toNat d.toNat with ⟨c0, c, e⟩ | ⟨c1, c2, c3, cv, e⟩ | ⟨c1, c2, c3, c4, cv, cs, e⟩ | ⟨c1, c2, c3, c4, c5, cv, cw, e⟩ | ⟨e, _⟩
    all_goals (rw [e] at h h'; simp only at h h')
    · omega
    · omega
    · omega
    · have hp : pointZ (64 * (64 * (64 * ((a.toNat : Int) - 240) + (b.toNat : Int) - 128) + (c.toNat : Int) - 128) + (d.toNat : Int) - 128) := by unfold pointZ; omega
      exact ⟨hp, (enc4 _ hp a b c d).2 ⟨by omega, by omega, by omega, by omega, by omega⟩⟩
    all_goals omega
/-- What stands at the front is just the number of its bytes. -/
theorem nxt_num (l : List UInt8) : (nxt l).2 = 0 ∨ (∃ a r, l = a :: r ∧ (nxt l).2 = 1 ∧ ((nxt l).1 : Int) = num1 a) ∨ (∃ a b r, l = a :: b :: r ∧ (nxt l).2 = 2 ∧ ((nxt l).1 : Int) = num2 a b) ∨ (∃ a b c r, l = a :: b :: c :: r ∧ (nxt l).2 = 3 ∧ ((nxt l).1 : Int) = num3 a b c) ∨ (∃ a b c d r, l = a :: b :: c :: d :: r ∧ (nxt l).2 = 4 ∧ ((nxt l).1 : Int) = num4 a b c d) := by
  have hle := nxt_le l
  rcases shape4 l (nxt l).2 hle.1 hle.2 with h0 | ⟨a, r, h1, e⟩ | ⟨a, b, r, h1, e⟩ | ⟨a, b, c, r, h1, e⟩ | ⟨a, b, c, d, r, h1, e⟩
  · exact .inl h0
  · refine .inr (.inl ⟨a, r, e, h1, ?_⟩)
    subst e
    have ha := a.toNat_lt
    unfold nxt at h1 ⊢
    simp only [List.length_cons, List.getD_cons_zero, List.getD_cons_succ] at h1 ⊢
    unfold num1
    rcases nx_shape (r.length + 1) a.toNat (r.getD 0 0).toNat (r.getD 1 0).toNat (r.getD 2 0).toNat with ⟨c0, c, e⟩ | ⟨c1, c2, c3, cv, e⟩ | ⟨c1, c2, c3, c4, cv, cs, e⟩ | ⟨c1, c2, c3, c4, c5, cv, cw, e⟩ | ⟨e, _⟩
    all_goals first | (rw [e] at h1 ⊢; done) | (rw [e] at h1 ⊢; simp only at h1; first | rfl | omega | (simp only; omega))
  · refine .inr (.inr (.inl ⟨a, b, r, e, h1, ?_⟩))
    subst e
    have ha := a.toNat_lt
    have hb := b.toNat_lt
    unfold nxt at h1 ⊢
    simp only [List.length_cons, List.getD_cons_zero, List.getD_cons_succ] at h1 ⊢
    unfold num2
    rcases nx_shape (r.length + 1 + 1) a.toNat b.toNat (r.getD 0 0).toNat (r.getD 1 0).toNat with ⟨c0, c, e⟩ | ⟨c1, c2, c3, cv, e⟩ | ⟨c1, c2, c3, c4, cv, cs, e⟩ | ⟨c1, c2, c3, c4, c5, cv, cw, e⟩ | ⟨e, _⟩
    all_goals (rw [e] at h1 ⊢; simp only at h1; first | rfl | omega | (simp only; omega))
  · refine .inr (.inr (.inr (.inl ⟨a, b, c, r, e, h1, ?_⟩)))
    subst e
    have ha := a.toNat_lt
    have hb := b.toNat_lt
    have hc := c.toNat_lt
    unfold nxt at h1 ⊢
    simp only [List.length_cons, List.getD_cons_zero, List.getD_cons_succ] at h1 ⊢
    unfold num3
    rcases nx_shape (r.length + 1 + 1 + 1) a.toNat b.toNat c.toNat (r.getD 0 0).toNat with ⟨c0, c, e⟩ | ⟨c1, c2, c3, cv, e⟩ | ⟨c1, c2, c3, c4, cv, cs, e⟩ | ⟨c1, c2, c3, c4, c5, cv, cw, e⟩ | ⟨e, _⟩
    all_goals (rw [e] at h1 ⊢; simp only at h1; first | rfl | omega | (simp only; omega))
  · refine .inr (.inr (.inr (.inr ⟨a, b, c, d, r, e, h1, ?_⟩)))
    subst e
    have ha := a.toNat_lt
    have hb := b.toNat_lt
    have hc := c.toNat_lt
    have hd := d.toNat_lt
    unfold nxt at h1 ⊢
    simp only [List.length_cons, List.getD_cons_zero, List.getD_cons_succ] at h1 ⊢
    unfold num4
    rcases nx_shape (r.length + 1 + 1 + 1 + 1) a.toNat b.toNat c.toNat d.toNat with ⟨c0, c, e⟩ | ⟨c1, c2, c3, cv, e⟩ | ⟨c1, c2, c3, c4, cv, cs, e⟩ | ⟨c1, c2, c3, c4, c5, cv, cw, e⟩ | ⟨e, _⟩
    all_goals (rw [e] at h1 ⊢; simp only at h1; first | rfl | omega | (simp only; omega))
/-- A loop's round. -/
theorem ev1 {α : Type} {g : Nat → Option α} {r : α} (f : Nat → Option α) (h : ∀ k, g (k + 1) = f k) (k : Ev f r) : Ev g r := Ev.step h k
theorem bind1 {α β : Type} {x : Option α} {a : α} {f : Nat → α → Option β} {r : β} (h : x = some a) (k : Ev (fun n => f n a) r) : Ev (fun n => x.bind (f n)) r := by
  rw [h]; exact k
def firsts : List Int := [0, 192, 224, 240]
theorem byte_wrap (s : ByteArray) (i : Int) : wrap64 (bt s i) = bt s i := by
  unfold bt
  split
  · have := UInt8.toNat_lt (s[i.toNat]'(by assumption)); exact w64 (by omega) (by omega)
  · exact w64 (by omega) (by omega)
/-- The loop's end: are these the bytes? -/
theorem ref_fits (s : ByteArray) (i n : Nat) (c : Int) (hs : s.size ≤ 140737488351232) (hn : i + n ≤ s.size) (r : Int × Int)
    (hyes : fitsN c (((tb s).drop i).take n) → r = (c, (n : Int))) (hno : ¬ fitsN c (((tb s).drop i).take n) → Ev (fun k => incipitref08_Next.l0 k s (i : Int) firsts (wrap64 ((n : Int) + 1))) r) :
    Ev (fun k => (incipitref08_Point.f c).bind fun t136 => (if t136 = true then ((incipitref08_Bytes.f c).bind fun t137 => (if 0 ≤ (i : Int) then (if (i : Int) ≤ (wrap64 ((i : Int) + (n : Int))) then (if (wrap64 ((i : Int) + (n : Int))) ≤ (s.size : Int) then (if t137.toList = (s.extract ((i : Int) : Int).toNat ((wrap64 ((i : Int) + (n : Int))) : Int).toNat).toList then (some (c, (n : Int))) else (incipitref08_Next.l0 k s (i : Int) firsts (wrap64 ((n : Int) + 1)))) else (none)) else (none)) else (none))) else (incipitref08_Next.l0 k s (i : Int) firsts (wrap64 ((n : Int) + 1))))) r := by
  obtain ⟨b, hb, hp⟩ := ref_point c
  refine bind1 hb ?_
  rw [w64 (x := (i : Int) + (n : Int)) (by omega) (by omega)]
  cases b with
  | false =>
    simp only [Bool.false_eq_true, if_false]
    exact hno fun h => by have := hp.2 h.1; simp at this
  | true =>
    simp only [if_true]
    have hpt := hp.1 rfl
    refine bind1 (ref_bytes c hpt) ?_
    simp only [if_pos (show (0 : Int) ≤ (i : Int) by omega), if_pos (show (i : Int) ≤ (i : Int) + (n : Int) by omega), if_pos (show (i : Int) + (n : Int) ≤ (s.size : Int) by omega)]
    have e1 : (strOfNums (Lib.encodeRuneZ c)).toList = (s.extract ((i : Int)).toNat ((i : Int) + (n : Int)).toNat).toList ↔ fitsN c (((tb s).drop i).take n) := by
      have q : ((i : Int) + (n : Int)).toNat = i + n := by omega
      rw [text_eq, tb_nums, tb_extract, q, Int.toNat_natCast, Nat.add_sub_cancel_left]
      exact ⟨fun h => ⟨hpt, h⟩, fun h => h.2⟩
    by_cases hf : fitsN c (((tb s).drop i).take n)
    · simp only [if_pos (e1.2 hf)]
      rw [hyes hf]
      exact Ev.now _
    · simp only [if_neg (mt e1.1 hf)]
      exact hno hf
theorem l1_go (s : ByteArray) (i n j : Nat) (c : Int) (hs : s.size ≤ 140737488351232) (hj : j < n) (hn4 : n ≤ 4) (hi : i + n ≤ s.size) (h1 : -100000000 ≤ c) (h2 : c ≤ 100000000) (r : Int × Int)
    (h : Ev (fun k => incipitref08_Next.l1 k s (i : Int) firsts (n : Int) (64 * c + (((tb s).getD (i + j) 0).toNat : Int) - 128) ((j + 1 : Nat) : Int)) r) :
    Ev (fun k => incipitref08_Next.l1 k s (i : Int) firsts (n : Int) c (j : Int)) r := by
  have hb := ((tb s).getD (i + j) 0).toNat_lt
  refine ev1 _ (fun k => by simp only [incipitref08_Next.l1]; rfl) ?_
  have e : wrap64 ((i : Int) + (j : Int)) = ((i + j : Nat) : Int) := by rw [w64 (by omega) (by omega)]; omega
  simp only [if_pos (show (j : Int) < (n : Int) by omega), e, if_pos (show (0 : Int) ≤ ((i + j : Nat) : Int) by omega), if_pos (show ((i + j : Nat) : Int) < (s.size : Int) by omega)]
  rw [byte_wrap, bt_nat, w64 (x := 64 * c) (by omega) (by omega), w64 (x := 64 * c + _) (by omega) (by omega), w64 (x := 64 * c + _ - 128) (by omega) (by omega), w64 (x := (j : Int) + 1) (by omega) (by omega)]
  exact h
theorem l1_end (s : ByteArray) (i n : Nat) (c : Int) (hs : s.size ≤ 140737488351232) (hi : i + n ≤ s.size) (r : Int × Int)
    (hyes : fitsN c (((tb s).drop i).take n) → r = (c, (n : Int))) (hno : ¬ fitsN c (((tb s).drop i).take n) → Ev (fun k => incipitref08_Next.l0 k s (i : Int) firsts (wrap64 ((n : Int) + 1))) r) :
    Ev (fun k => incipitref08_Next.l1 k s (i : Int) firsts (n : Int) c (n : Int)) r := by
  refine ev1 _ (fun k => by simp only [incipitref08_Next.l1]; rfl) ?_
  simp only [if_neg (show ¬ (n : Int) < (n : Int) by omega)]
  exact ref_fits s i n c hs hi r hyes hno
/-- One size: n bytes, from the first byte's number on. -/
theorem l0_go (s : ByteArray) (i n : Nat) (hs : s.size ≤ 140737488351232) (h0 : 0 < n) (hn4 : n ≤ 4) (hi : i + n ≤ s.size) (r : Int × Int)
    (h : Ev (fun k => incipitref08_Next.l1 k s (i : Int) firsts (n : Int) ((((tb s).getD i 0).toNat : Int) - rd firsts ((n - 1 : Nat) : Int)) 1) r) : Ev (fun k => incipitref08_Next.l0 k s (i : Int) firsts (n : Int)) r := by
  have hb := ((tb s).getD i 0).toNat_lt
  refine ev1 _ (fun k => by simp only [incipitref08_Next.l0]; rfl) ?_
  simp only [if_pos (show (n : Int) ≤ 4 by omega)]
  rw [w64 (x := (s.size : Int) - (i : Int)) (by omega) (by omega)]
  refine ev1 _ (fun k => by simp only [incipitref08_Next.j2]; rfl) ?_
  have e : wrap64 ((n : Int) - 1) = ((n - 1 : Nat) : Int) := by rw [w64 (by omega) (by omega)]; omega
  have hr : 0 ≤ rd firsts ((n - 1 : Nat) : Int) ∧ rd firsts ((n - 1 : Nat) : Int) ≤ 240 := by
    rcases (show n = 1 ∨ n = 2 ∨ n = 3 ∨ n = 4 by omega) with rfl | rfl | rfl | rfl <;> decide
  simp only [decide_eq_true (show (n : Int) ≤ (s.size : Int) - (i : Int) by omega), if_true, if_pos (show (0 : Int) ≤ (i : Int) by omega), if_pos (show (i : Int) < (s.size : Int) by omega), e, if_pos (show (0 : Int) ≤ ((n - 1 : Nat) : Int) by omega), if_pos (show ((n - 1 : Nat) : Int) < (firsts.length : Int) by simp [firsts]; omega)]
  rw [byte_wrap, bt_nat, w64 (by omega) (by omega)]
  exact h
theorem l0_stop (s : ByteArray) (i n : Nat) (hs : s.size ≤ 140737488351232) (hi : i ≤ s.size) (hn : 4 < n ∨ s.size < i + n) (hn6 : n ≤ 6) : Ev (fun k => incipitref08_Next.l0 k s (i : Int) firsts (n : Int)) (0, 0) := by
  refine ev1 _ (fun k => by simp only [incipitref08_Next.l0]; rfl) ?_
  rw [w64 (x := (s.size : Int) - (i : Int)) (by omega) (by omega)]
  by_cases h4 : (n : Int) ≤ 4
  · simp only [if_pos h4]
    refine ev1 _ (fun k => by simp only [incipitref08_Next.j2]; rfl) ?_
    simp only [decide_eq_false (show ¬ (n : Int) ≤ (s.size : Int) - (i : Int) by omega), Bool.false_eq_true, if_false]
    exact Ev.now _
  · simp only [if_neg h4]
    refine ev1 _ (fun k => by simp only [incipitref08_Next.j2]; rfl) ?_
    simp only [Bool.false_eq_true, if_false]
    exact Ev.now _
theorem drop_cons4 (s : ByteArray) (i : Nat) (l : List UInt8) (h : (tb s).drop i = l) : (∀ j, (tb s).getD (i + j) 0 = l.getD j 0) ∧ l.length = s.size - i := by
  subst h
  exact ⟨fun j => by rw [Lib.getD_dropU], by rw [List.length_drop, tb_length]⟩
theorem ref_next_in (s : ByteArray) (i : Nat) (hs : s.size ≤ 140737488351232) (hi : i < s.size) : Ev (fun k => incipitref08_Next.l0 k s (i : Int) firsts 1) (nextB s (i : Int)) := by
  rw [nextB_nat]
  obtain ⟨l, hl⟩ : ∃ l, (tb s).drop i = l := ⟨_, rfl⟩
  obtain ⟨hg, hlen⟩ := drop_cons4 s i l hl
  have hn := Go.Proofs.YtpgcepfecmkkaaaDoor.hid (nxt_num l)
  rw [hl]
  have g0 : (tb s).getD i 0 = l.getD 0 0 := hg 0
  have stop : ∀ n : Nat, (nxt l).2 = 0 → (4 < n ∨ s.size < i + n) → n ≤ 6 → Ev (fun k => incipitref08_Next.l0 k s (i : Int) firsts (n : Int)) (((nxt l).1 : Int), ((nxt l).2 : Int)) := by
    intro n hz h1 h2
    have e : nxt l = (0, 0) := by
      unfold nxt at hz ⊢
      rcases nx_shape l.length (l.getD 0 0).toNat (l.getD 1 0).toNat (l.getD 2 0).toNat (l.getD 3 0).toNat with ⟨c0, c, e⟩ | ⟨c1, c2, c3, cv, e⟩ | ⟨c1, c2, c3, c4, cv, cs, e⟩ | ⟨c1, c2, c3, c4, c5, cv, cw, e⟩ | ⟨e, _⟩
      all_goals first | exact e | (rw [e] at hz; simp at hz)
    rw [e]
    exact l0_stop s i n hs (by omega) h1 h2
  have t1 : wrap64 ((1 : Nat) + 1 : Int) = ((2 : Nat) : Int) := by decide +kernel
  have t2 : wrap64 ((2 : Nat) + 1 : Int) = ((3 : Nat) : Int) := by decide +kernel
  have t3 : wrap64 ((3 : Nat) + 1 : Int) = ((4 : Nat) : Int) := by decide +kernel
  have t4 : wrap64 ((4 : Nat) + 1 : Int) = ((5 : Nat) : Int) := by decide +kernel
  match l, hl, hg, hlen, hn, g0, stop with
  | [], _, _, hlen, _, _, _ => exact absurd (Nat.le_of_sub_eq_zero (show s.size - i = 0 from hlen.symm)) (Nat.not_le.2 hi)
  | a :: r, hl, hg, hlen, hn, g0, stop =>
    have hA := a.toNat_lt
    have g0 : (tb s).getD i 0 = a := g0
    have k0 : (tb s).getD (i + 0) 0 = a := hg 0
    refine l0_go s i 1 hs (by omega) (by omega) (by omega) _ ?_
    refine l1_end s i 1 _ hs (by omega) _ ?_ ?_
    · rw [hl, g0]
      intro hf
      rw [show (((a.toNat : Int) - rd firsts ((1 - 1 : Nat) : Int))) = num1 a by unfold num1; show _ - (0 : Int) = _; omega] at hf ⊢
      have := (fits1 a r).1 hf
      rw [this]; rfl
    · rw [hl, g0, t1]
      intro hf
      rw [show (((a.toNat : Int) - rd firsts ((1 - 1 : Nat) : Int))) = num1 a by unfold num1; show _ - (0 : Int) = _; omega] at hf
      have n1 : (nxt (a :: r)).2 ≠ 1 := by
        intro h
        rcases hn.out with h0 | ⟨a', r', e, h1, hc⟩ | ⟨a', b', r', e, h1, hc⟩ | ⟨a', b', c', r', e, h1, hc⟩ | ⟨a', b', c', d', r', e, h1, hc⟩
        · omega
        · cases e; exact hf ((fits1 a r).2 (Prod.ext (by unfold num1 at hc; omega) h))
        all_goals omega
      match r, hl, hg, hlen, hn, stop, n1 with
      | [], hl, hg, hlen, hn, stop, n1 =>
        simp at hlen
        refine stop 2 ?_ (by omega) (by omega)
        rcases hn.out with h0 | ⟨a', r', e, h1, hc⟩ | ⟨a', b', r', e, h1, hc⟩ | ⟨a', b', c', r', e, h1, hc⟩ | ⟨a', b', c', d', r', e, h1, hc⟩
        · exact h0
        · exact absurd h1 n1
        all_goals cases e
      | b :: r, hl, hg, hlen, hn, stop, n1 =>
        have hB := b.toNat_lt
        have g0 : (tb s).getD i 0 = a := g0
        have k1 : (tb s).getD (i + 1) 0 = b := hg 1
        simp only [List.length_cons] at hlen
        refine l0_go s i 2 hs (by omega) (by omega) (by omega) _ ?_
        rw [g0]
        have r2 : rd firsts ((2 - 1 : Nat) : Int) = 192 := rfl
        rw [r2]
        refine l1_go s i 2 1 _ hs (by omega) (by omega) (by omega) (by omega) (by omega) _ ?_
        rw [k1, show 64 * ((a.toNat : Int) - 192) + (b.toNat : Int) - 128 = num2 a b from rfl]
        refine l1_end s i 2 _ hs (by omega) _ ?_ ?_
        · rw [hl]
          intro hf
          obtain ⟨h1, h2⟩ := (fits2 a b r).1 hf
          rw [h1, h2]
        · rw [hl, t2]
          intro hf
          have n2 : (nxt (a :: b :: r)).2 ≠ 2 := by
            intro h
            rcases hn.out with h0 | ⟨a', r', e, h1, hc⟩ | ⟨a', b', r', e, h1, hc⟩ | ⟨a', b', c', r', e, h1, hc⟩ | ⟨a', b', c', d', r', e, h1, hc⟩
            · omega
            · omega
            · cases e; exact hf ((fits2 a b r).2 ⟨h, hc⟩)
            all_goals omega
          match r, hl, hg, hlen, hn, stop, n1, n2 with
          | [], hl, hg, hlen, hn, stop, n1, n2 =>
            simp at hlen
            refine stop 3 ?_ (by omega) (by omega)
            rcases hn.out with h0 | ⟨a', r', e, h1, hc⟩ | ⟨a', b', r', e, h1, hc⟩ | ⟨a', b', c', r', e, h1, hc⟩ | ⟨a', b', c', d', r', e, h1, hc⟩
            · exact h0
            · exact absurd h1 n1
            · exact absurd h1 n2
            all_goals cases e
          | c :: r, hl, hg, hlen, hn, stop, n1, n2 =>
            have hC := c.toNat_lt
            have g0 : (tb s).getD i 0 = a := g0
            have k2 : (tb s).getD (i + 2) 0 = c := hg 2
            simp only [List.length_cons] at hlen
            refine l0_go s i 3 hs (by omega) (by omega) (by omega) _ ?_
            rw [g0]
            have r3 : rd firsts ((3 - 1 : Nat) : Int) = 224 := rfl
            rw [r3]
            refine l1_go s i 3 1 _ hs (by omega) (by omega) (by omega) (by omega) (by omega) _ ?_
            rw [k1]
            refine l1_go s i 3 2 _ hs (by omega) (by omega) (by omega) (by omega) (by omega) _ ?_
            rw [k2, show 64 * (64 * ((a.toNat : Int) - 224) + (b.toNat : Int) - 128) + (c.toNat : Int) - 128 = num3 a b c from rfl]
            refine l1_end s i 3 _ hs (by omega) _ ?_ ?_
            · rw [hl]
              intro hf
              obtain ⟨h1, h2⟩ := (fits3 a b c r).1 hf
              rw [h1, h2]
            · rw [hl, t3]
              intro hf
              have n3 : (nxt (a :: b :: c :: r)).2 ≠ 3 := by
                intro h
                rcases hn.out with h0 | ⟨a', r', e, h1, hc⟩ | ⟨a', b', r', e, h1, hc⟩ | ⟨a', b', c', r', e, h1, hc⟩ | ⟨a', b', c', d', r', e, h1, hc⟩
                · omega
                · omega
                · omega
                · cases e; exact hf ((fits3 a b c r).2 ⟨h, hc⟩)
                · omega
              match r, hl, hg, hlen, hn, stop, n1, n2, n3 with
              | [], hl, hg, hlen, hn, stop, n1, n2, n3 =>
                simp at hlen
                refine stop 4 ?_ (by omega) (by omega)
                rcases hn.out with h0 | ⟨a', r', e, h1, hc⟩ | ⟨a', b', r', e, h1, hc⟩ | ⟨a', b', c', r', e, h1, hc⟩ | ⟨a', b', c', d', r', e, h1, hc⟩
                · exact h0
                · exact absurd h1 n1
                · exact absurd h1 n2
                · exact absurd h1 n3
                · cases e
              | d :: r, hl, hg, hlen, hn, stop, n1, n2, n3 =>
                have hD := d.toNat_lt
                have g0 : (tb s).getD i 0 = a := g0
                have k3 : (tb s).getD (i + 3) 0 = d := hg 3
                simp only [List.length_cons] at hlen
                refine l0_go s i 4 hs (by omega) (by omega) (by omega) _ ?_
                rw [g0]
                have r4 : rd firsts ((4 - 1 : Nat) : Int) = 240 := rfl
                rw [r4]
                refine l1_go s i 4 1 _ hs (by omega) (by omega) (by omega) (by omega) (by omega) _ ?_
                rw [k1]
                refine l1_go s i 4 2 _ hs (by omega) (by omega) (by omega) (by omega) (by omega) _ ?_
                rw [k2]
                refine l1_go s i 4 3 _ hs (by omega) (by omega) (by omega) (by omega) (by omega) _ ?_
                rw [k3, show 64 * (64 * (64 * ((a.toNat : Int) - 240) + (b.toNat : Int) - 128) + (c.toNat : Int) - 128) + (d.toNat : Int) - 128 = num4 a b c d from rfl]
                refine l1_end s i 4 _ hs (by omega) _ ?_ ?_
                · rw [hl]
                  intro hf
                  obtain ⟨h1, h2⟩ := (fits4 a b c d r).1 hf
                  rw [h1, h2]
                · rw [hl, t4]
                  intro hf
                  refine stop 5 ?_ (by omega) (by omega)
                  rcases hn.out with h0 | ⟨a', r', e, h1, hc⟩ | ⟨a', b', r', e, h1, hc⟩ | ⟨a', b', c', r', e, h1, hc⟩ | ⟨a', b', c', d', r', e, h1, hc⟩
                  · exact h0
                  · exact absurd h1 n1
                  · exact absurd h1 n2
                  · exact absurd h1 n3
                  · cases e; exact absurd ((fits4 a b c d r).2 ⟨h1, hc⟩) hf
/-- The document's Next is the plain one. -/
theorem ref_next (s : ByteArray) (i : Int) (hs : s.size ≤ 140737488351232) : Ev (fun k => incipitref08_Next.f k s i) (nextB s i) := by
  unfold incipitref08_Next.f
  by_cases h0 : i < 0
  · simp only [if_pos h0]
    refine ev1 _ (fun k => by simp only [incipitref08_Next.j0]; rfl) ?_
    simp only [if_true]
    rw [nextB_neg s i h0]
    exact Ev.now _
  · simp only [if_neg h0]
    obtain ⟨n, rfl⟩ := Int.eq_ofNat_of_zero_le (Int.not_lt.1 h0)
    refine ev1 _ (fun k => by simp only [incipitref08_Next.j0]; rfl) ?_
    by_cases h1 : s.size ≤ n
    · simp only [decide_eq_true (show (n : Int) ≥ (s.size : Int) by omega), if_true]
      rw [nextB_out s n h1]
      exact Ev.now _
    · simp only [decide_eq_false (show ¬ (n : Int) ≥ (s.size : Int) by omega), Bool.false_eq_true, if_false]
      exact ref_next_in s n hs (by omega)
end Go.Proofs.YtpgcepfecmkkaaaDoor.Ref
set_option linter.unusedVariables false
set_option linter.unusedSimpArgs false
namespace Go.Proofs.YtpgcepfecmkkaaaDoor.Ref
open Go.RowKit Go.Proofs.YtpgcepfecmkkaaaDoor Go.Proofs.YtpgcepfecmkkaaaDoorZ.ZA Go.Proofs.YtpgcepfecmkkaaaDoorW.PrintWords

theorem ref_fault_from (s : ByteArray) (hs : s.size ≤ 140737488351232) : ∀ (d i : Nat), s.size - i ≤ d → i ≤ s.size → Ev (fun k => incipitref08_Fault.l0 k s (i : Int)) ((i + faultL ((tb s).drop i) : Nat) : Int) := by
  intro d
  induction d with
  | zero =>
    intro i hd hi
    refine ev1 _ (fun k => by simp only [incipitref08_Fault.l0]; rfl) ?_
    refine Ev.bind (ref_next s (i : Int) hs) ?_
    rw [nextB_out s i (by omega), List.drop_of_length_le (by rw [tb_length]; omega), faultL_nil]
    simp only [if_true]
    exact Ev.now _
  | succ d ih =>
    intro i hd hi
    refine ev1 _ (fun k => by simp only [incipitref08_Fault.l0]; rfl) ?_
    refine Ev.bind (ref_next s (i : Int) hs) ?_
    rw [nextB_nat, faultL_eq]
    have hle := (nxt_le ((tb s).drop i)).1
    rw [List.length_drop, tb_length] at hle
    by_cases hp : 0 < (nxt ((tb s).drop i)).2
    · simp only [if_neg (show ¬ ((nxt ((tb s).drop i)).2 : Int) = 0 by omega), if_pos hp]
      rw [w64 (by omega) (by omega)]
      have := ih (i + (nxt ((tb s).drop i)).2) (by omega) (by omega)
      rw [List.drop_drop, ← Nat.add_assoc]
      exact this
    · simp only [if_pos (show ((nxt ((tb s).drop i)).2 : Int) = 0 by omega), if_neg hp]
      exact Ev.now _
theorem ref_fault (s : ByteArray) (hs : s.size ≤ 140737488351232) : Ev (fun k => incipitref08_Fault.f k s) (faultB s) := by
  unfold incipitref08_Fault.f
  rw [faultB_eq]
  have := ref_fault_from s hs s.size 0 (by omega) (by omega)
  rw [List.drop_zero, Nat.zero_add] at this
  exact this
theorem fault_some (s : ByteArray) (hs : s.size ≤ 140737488351232) : utf_Fault.f s = some (faultL (tb s) : Int) := by
  unfold utf_Fault.f
  rw [if_pos (by omega), faultB_eq]
theorem ref_may (s : ByteArray) (hs : s.size ≤ 140737488351232) : Ev (fun k => incipitref08_May.f k s) (decide (faultL (tb s) = s.size)) := by
  unfold incipitref08_May.f
  refine Ev.bind (ref_fault s hs) ?_
  rw [faultB_eq]
  rw [show ((faultL (tb s) : Int) == (s.size : Int)) = decide (faultL (tb s) = s.size) by rw [Bool.eq_iff_iff]; simp; omega]
  exact Ev.now _
theorem may_some (s : ByteArray) (hs : s.size ≤ 140737488351232) : utf_May.f s = some (decide (faultL (tb s) = s.size)) := by
  unfold utf_May.f
  rw [fault_some s hs]
  simp only [Option.bind_some, Option.some.injEq]
  rw [Bool.eq_iff_iff]; simp; omega
end Go.Proofs.YtpgcepfecmkkaaaDoor.Ref
set_option linter.unusedVariables false
set_option linter.unusedSimpArgs false
namespace Go.Proofs.YtpgcepfecmkkaaaDoor.Ref
open Go.RowKit Go.Proofs.YtpgcepfecmkkaaaDoor Go.Proofs.YtpgcepfecmkkaaaDoorZ.ZA Go.Proofs.YtpgcepfecmkkaaaDoorW.PrintWords

theorem bt_tb (s : ByteArray) (i : Nat) (h : i < (tb s).length) : bt s (i : Int) = ((tb s)[i].toNat : Int) := by
  rw [bt_nat, List.getD_eq_getElem?_getD, List.getElem?_eq_getElem h]; rfl
theorem name_l0 (s : ByteArray) (hs : s.size ≤ 140737488351232) : ∀ (d i : Nat), s.size - i = d → i ≤ s.size → 0 < i → Ev (fun k => incipitref11_Name.l0 k s (i : Int)) (nameFrom i ((tb s).drop i)) := by
  intro d
  induction d with
  | zero =>
    intro i hd hi h0
    refine ev1 _ (fun k => by simp only [incipitref11_Name.l0]; rfl) ?_
    simp only [if_neg (show ¬ (i : Int) < (s.size : Int) by omega)]
    rw [List.drop_of_length_le (by rw [tb_length]; omega)]
    exact Ev.now _
  | succ d ih =>
    intro i hd hi h0
    have hlt : i < (tb s).length := by rw [tb_length]; omega
    refine ev1 _ (fun k => by simp only [incipitref11_Name.l0]; rfl) ?_
    rw [List.drop_eq_getElem_cons hlt, nameFrom, decide_eq_false (show ¬ i = 0 by omega)]
    simp only [if_pos (show (i : Int) < (s.size : Int) by omega), if_pos (show (0 : Int) ≤ (i : Int) by omega), bt_tb s i hlt]
    have hw : wrap64 ((i : Int) + 1) = ((i + 1 : Nat) : Int) := by rw [w64 (by omega) (by omega)]; omega
    rw [hw]
    have next := ih (i + 1) (by omega) (by omega) (by omega)
    generalize (tb s)[i].toNat = c
    have no : lb c false = false → Ev (fun _ : Nat => (some false : Option Bool)) (lb c false && nameFrom (i + 1) ((tb s).drop (i + 1))) := fun h => by rw [h]; exact Ev.now _
    have yes : lb c false = true → Ev (fun k => incipitref11_Name.l0 k s ((i + 1 : Nat) : Int)) (lb c false && nameFrom (i + 1) ((tb s).drop (i + 1))) := fun h => by rw [h, Bool.true_and]; exact next
    have hlb : lb c false = ((decide (97 ≤ c) && decide (c ≤ 122)) || ((decide (48 ≤ c) && decide (c ≤ 57)) || decide (c = 95))) := by unfold lb; rfl
    by_cases h1 : (c : Int) ≥ 97
    · simp only [if_pos h1, if_pos (show (c : Int) ≥ 48 by omega)]
      by_cases h2 : (c : Int) ≤ 122
      · simp only [if_pos h2]; exact yes (by rw [hlb]; simp; omega)
      · simp only [if_neg h2, if_neg (show ¬ (c : Int) ≤ 57 by omega), if_neg (show ¬ (c : Int) = 95 by omega)]; exact no (by rw [hlb]; simp; omega)
    · simp only [if_neg h1]
      by_cases h3 : (c : Int) ≥ 48
      · simp only [if_pos h3]
        by_cases h4 : (c : Int) ≤ 57
        · simp only [if_pos h4]; exact yes (by rw [hlb]; simp; omega)
        · simp only [if_neg h4]
          by_cases h5 : (c : Int) = 95
          · simp only [if_pos h5]; exact yes (by rw [hlb]; simp; omega)
          · simp only [if_neg h5]; exact no (by rw [hlb]; simp; omega)
      · simp only [if_neg h3, if_neg (show ¬ (c : Int) = 95 by omega)]; exact no (by rw [hlb]; simp; omega)
theorem ref_name (s : ByteArray) (hs : s.size ≤ 9223372036854775807) : Ev (fun k => incipitref11_Name.f k s) (nameB s) := by
  unfold incipitref11_Name.f
  have out : nameB s = false → Ev (fun k => incipitref11_Name.j0 k s true) (nameB s) := fun h => by
    refine ev1 _ (fun k => by simp only [incipitref11_Name.j0]; rfl) ?_
    simp only [if_true, h]
    exact Ev.now _
  by_cases h1 : (s.size : Int) < 1
  · simp only [if_pos h1]; exact out (by unfold nameB; rw [decide_eq_false (show ¬ 0 < s.size by omega)]; simp)
  by_cases h2 : (s.size : Int) > 16
  · simp only [if_neg h1, if_pos h2]; exact out (by unfold nameB; rw [decide_eq_false (show ¬ s.size ≤ 16 by omega)]; simp)
  have hlt : 0 < (tb s).length := by rw [tb_length]; omega
  have e0 : bt s 0 = ((tb s)[0].toNat : Int) := bt_tb s 0 hlt
  have hd : tb s = (tb s)[0] :: (tb s).drop 1 := by rw [← List.drop_eq_getElem_cons hlt, List.drop_zero]
  have hn : nameB s = (lb (tb s)[0].toNat true && nameFrom 1 ((tb s).drop 1)) := by
    unfold nameB
    rw [decide_eq_true (show 0 < s.size by omega), decide_eq_true (show s.size ≤ 16 by omega)]
    conv => lhs; rw [hd]
    rw [nameFrom]
    simp
  have hlb : ∀ c, lb c true = (decide (97 ≤ c) && decide (c ≤ 122)) := fun c => by unfold lb; simp
  simp only [if_neg h1, if_neg h2, if_pos (show 0 < (s.size : Int) by omega), e0]
  by_cases h3 : ((tb s)[0].toNat : Int) < 97
  · simp only [if_pos h3]; exact out (by rw [hn, hlb, decide_eq_false (show ¬ 97 ≤ (tb s)[0].toNat by omega)]; rfl)
  by_cases h4 : ((tb s)[0].toNat : Int) > 122
  · simp only [if_neg h3, decide_eq_true h4]; exact out (by rw [hn, hlb, decide_eq_false (show ¬ (tb s)[0].toNat ≤ 122 by omega)]; simp)
  simp only [if_neg h3, decide_eq_false h4]
  refine ev1 _ (fun k => by simp only [incipitref11_Name.j0]; rfl) ?_
  simp only [Bool.false_eq_true, if_false]
  rw [hn, hlb, decide_eq_true (show 97 ≤ (tb s)[0].toNat by omega), decide_eq_true (show (tb s)[0].toNat ≤ 122 by omega), Bool.true_and, Bool.true_and]
  exact name_l0 s (by omega) _ 1 rfl (by omega) (by omega)

/-! ### columns -/
def col (l : List S39) (i : Nat) : S39 := rd_T39 l (i : Int)
theorem col_at (l : List S39) (i : Nat) (h : i < l.length) : col l i = l[i] := by simp [col, rd_T39, List.getD, h]
def okCol (l : List S39) (i : Nat) : Prop := nameB (col l i).f0 = true ∧ ((col l i).f1 = 1 ∨ (col l i).f1 = 2)
def refCol (l : List S39) (i : Nat) : Prop := okCol l i ∧ ∀ j, i < j → j < l.length → (col l i).f0.toList ≠ (col l j).f0.toList
theorem may_inner (l : List S39) (hl : l.length ≤ 6) (i : Nat) (hi : i < l.length) (B : Bool) (hB : Ev (fun k => incipitref11_May.l0 k l ((i + 1 : Nat) : Int)) B) : ∀ (d j : Nat), l.length - j = d → j ≤ l.length →
    ∃ b, Ev (fun k => incipitref11_May.l1 k l (i : Int) (j : Int)) b ∧ (b = true ↔ (∀ m, j ≤ m → m < l.length → (col l i).f0.toList ≠ (col l m).f0.toList) ∧ B = true) := by
  intro d
  induction d with
  | zero =>
    intro j hd hj
    refine ⟨B, ?_, ⟨fun h => ⟨fun m h1 h2 => by omega, h⟩, fun h => h.2⟩⟩
    refine ev1 _ (fun k => by simp only [incipitref11_May.l1]; rfl) ?_
    have hw : wrap64 ((i : Int) + 1) = ((i + 1 : Nat) : Int) := by rw [w64 (by omega) (by omega)]; omega
    simp only [if_neg (show ¬ (j : Int) < (l.length : Int) by omega), hw]
    exact hB
  | succ d ih =>
    intro j hd hj
    have hjl : j < l.length := by omega
    have hw : wrap64 ((j : Int) + 1) = ((j + 1 : Nat) : Int) := by rw [w64 (by omega) (by omega)]; omega
    by_cases he : (col l i).f0.toList = (col l j).f0.toList
    · refine ⟨false, ?_, ⟨fun h => (by cases h), fun h => absurd he (h.1 j (Nat.le_refl _) hjl)⟩⟩
      refine ev1 _ (fun k => by simp only [incipitref11_May.l1]; rfl) ?_
      have he' : (rd_T39 l (i : Int)).f0.toList = (rd_T39 l (j : Int)).f0.toList := he
      simp only [if_pos (show (j : Int) < (l.length : Int) by omega), if_pos (show (0 : Int) ≤ (i : Int) by omega), if_pos (show (i : Int) < (l.length : Int) by omega), if_pos (show (0 : Int) ≤ (j : Int) by omega), if_pos he']
      exact Ev.now _
    · obtain ⟨b, h1, h2⟩ := ih (j + 1) (by omega) (by omega)
      refine ⟨b, ?_, h2.trans ⟨fun h => ⟨fun m hm hml => ?_, h.2⟩, fun h => ⟨fun m hm hml => h.1 m (by omega) hml, h.2⟩⟩⟩
      · refine ev1 _ (fun k => by simp only [incipitref11_May.l1]; rfl) ?_
        have he' : ¬ (rd_T39 l (i : Int)).f0.toList = (rd_T39 l (j : Int)).f0.toList := he
        simp only [if_pos (show (j : Int) < (l.length : Int) by omega), if_pos (show (0 : Int) ≤ (i : Int) by omega), if_pos (show (i : Int) < (l.length : Int) by omega), if_pos (show (0 : Int) ≤ (j : Int) by omega), if_neg he', hw]
        exact h1
      · rcases Nat.eq_or_lt_of_le hm with h3 | h3
        · rw [← h3]; exact he
        · exact h.1 m h3 hml
theorem may_outer (l : List S39) (hl : l.length ≤ 6) (hsz : ∀ x ∈ l, x.f0.size ≤ 9223372036854775807) : ∀ (d i : Nat), l.length - i = d → i ≤ l.length →
    ∃ b, Ev (fun k => incipitref11_May.l0 k l (i : Int)) b ∧ (b = true ↔ ∀ m, i ≤ m → m < l.length → refCol l m) := by
  intro d
  induction d with
  | zero =>
    intro i hd hi
    refine ⟨true, ?_, ⟨fun _ m h1 h2 => by omega, fun _ => rfl⟩⟩
    refine ev1 _ (fun k => by simp only [incipitref11_May.l0]; rfl) ?_
    simp only [if_neg (show ¬ (i : Int) < (l.length : Int) by omega)]
    exact Ev.now _
  | succ d ih =>
    intro i hd hi
    have hil : i < l.length := by omega
    obtain ⟨B, hB1, hB2⟩ := ih (i + 1) (by omega) (by omega)
    obtain ⟨b, hb1, hb2⟩ := may_inner l hl i hil B hB1 _ (i + 1) rfl (by omega)
    have hsi : (col l i).f0.size ≤ 9223372036854775807 := by rw [col_at l i hil]; exact hsz _ (List.getElem_mem hil)
    have hw : wrap64 ((i : Int) + 1) = ((i + 1 : Nat) : Int) := by rw [w64 (by omega) (by omega)]; omega
    have bad : ¬ okCol l i → ∀ f : Nat → Option Bool, (Ev (fun k => incipitref11_May.j2 k l (i : Int) true) false → Ev f false) → ∃ b, Ev f b ∧ (b = true ↔ ∀ m, i ≤ m → m < l.length → refCol l m) := fun hno f hf => by
      refine ⟨false, hf ?_, ⟨fun h => (by cases h), fun h => absurd (h i (Nat.le_refl _) hil).1 hno⟩⟩
      refine ev1 _ (fun k => by simp only [incipitref11_May.j2]; rfl) ?_
      simp only [if_true]
      exact Ev.now _
    have hnm : Ev (fun k => incipitref11_Name.f k (rd_T39 l (i : Int)).f0) (nameB (col l i).f0) := ref_name _ hsi
    by_cases hn : nameB (col l i).f0 = true
    · rw [hn] at hnm
      by_cases hk : (col l i).f1 = 1 ∨ (col l i).f1 = 2
      · refine ⟨b, ?_, hb2.trans ?_⟩
        · refine ev1 _ (fun k => by simp only [incipitref11_May.l0]; rfl) ?_
          simp only [if_pos (show (i : Int) < (l.length : Int) by omega), if_pos (show (0 : Int) ≤ (i : Int) by omega)]
          refine Ev.bind hnm ?_
          have hk' : (rd_T39 l (i : Int)).f1 = 1 ∨ (rd_T39 l (i : Int)).f1 = 2 := hk
          simp only [if_true, if_neg (show ¬ (rd_T39 l (i : Int)).f1 < 1 by omega), decide_eq_false (show ¬ (rd_T39 l (i : Int)).f1 > 2 by omega)]
          refine ev1 _ (fun k => by simp only [incipitref11_May.j2]; rfl) ?_
          simp only [Bool.false_eq_true, if_false, hw]
          exact hb1
        · rw [hB2]
          constructor
          · intro h m hm hml
            rcases Nat.eq_or_lt_of_le hm with h3 | h3
            · rw [← h3]; exact ⟨⟨hn, hk⟩, fun j hj hjl => h.1 j hj hjl⟩
            · exact h.2 m h3 hml
          · intro h
            exact ⟨fun m hm hml => (h i (Nat.le_refl _) hil).2 m hm hml, fun m hm hml => h m (by omega) hml⟩
      · refine bad (fun h => hk h.2) _ (fun hj => ?_)
        refine ev1 _ (fun k => by simp only [incipitref11_May.l0]; rfl) ?_
        simp only [if_pos (show (i : Int) < (l.length : Int) by omega), if_pos (show (0 : Int) ≤ (i : Int) by omega)]
        refine Ev.bind hnm ?_
        have hk' : ¬ ((rd_T39 l (i : Int)).f1 = 1 ∨ (rd_T39 l (i : Int)).f1 = 2) := hk
        simp only [if_true]
        by_cases h1 : (rd_T39 l (i : Int)).f1 < 1
        · simp only [if_pos h1]; exact hj
        · simp only [if_neg h1, decide_eq_true (show (rd_T39 l (i : Int)).f1 > 2 by omega)]; exact hj
    · refine bad (fun h => hn h.1) _ (fun hj => ?_)
      rw [Bool.eq_false_iff.2 hn] at hnm
      refine ev1 _ (fun k => by simp only [incipitref11_May.l0]; rfl) ?_
      simp only [if_pos (show (i : Int) < (l.length : Int) by omega), if_pos (show (0 : Int) ≤ (i : Int) by omega)]
      refine Ev.bind hnm ?_
      simp only [Bool.false_eq_true, if_false]
      exact hj
theorem colB_iff (l : List S39) (i : Nat) (h : i < l.length) : colB l i = true ↔ okCol l i ∧ ∀ j, j < i → (col l j).f0.toList ≠ (col l i).f0.toList := by
  unfold colB okCol
  have e : rd_T39 l (i : Int) = col l i := rfl
  rw [e]
  simp only [Bool.and_eq_true, Bool.or_eq_true, decide_eq_true_eq, Bool.not_eq_true', and_assoc]
  refine and_congr_right fun _ => and_congr_right fun _ => ?_
  rw [Bool.eq_false_iff, ne_eq, List.any_eq_true]
  constructor
  · intro hno j hj he
    refine hno ⟨l[j], ?_, by rw [← col_at l j (by omega)]; exact decide_eq_true he⟩
    rw [List.mem_take_iff_getElem]
    exact ⟨j, by omega, rfl⟩
  · rintro hno ⟨x, hx, he⟩
    rw [List.mem_take_iff_getElem] at hx
    obtain ⟨j, hj, rfl⟩ := hx
    exact hno j (by omega) (by rw [col_at l j (by omega)]; exact of_decide_eq_true he)
theorem ref_may11 (l : List S39) (hsz : ∀ x ∈ l, x.f0.size ≤ 9223372036854775807) : Ev (fun k => incipitref11_May.f k l) (mayB l) := by
  unfold incipitref11_May.f
  have out : mayB l = false → Ev (fun k => incipitref11_May.j0 k l true) (mayB l) := fun h => by
    refine ev1 _ (fun k => by simp only [incipitref11_May.j0]; rfl) ?_
    simp only [if_true, h]
    exact Ev.now _
  by_cases h1 : (l.length : Int) < 1
  · simp only [if_pos h1]; exact out (by unfold mayB; rw [decide_eq_false (show ¬ 0 < l.length by omega)]; simp)
  by_cases h2 : (l.length : Int) > 6
  · simp only [if_neg h1, decide_eq_true h2]; exact out (by unfold mayB; rw [decide_eq_false (show ¬ l.length ≤ 6 by omega)]; simp)
  simp only [if_neg h1, decide_eq_false h2]
  refine ev1 _ (fun k => by simp only [incipitref11_May.j0]; rfl) ?_
  simp only [Bool.false_eq_true, if_false]
  obtain ⟨b, hb1, hb2⟩ := may_outer l (by omega) hsz _ 0 rfl (Nat.zero_le _)
  have e : b = mayB l := by
    rw [Bool.eq_iff_iff, hb2]
    unfold mayB
    rw [decide_eq_true (show 0 < l.length by omega), decide_eq_true (show l.length ≤ 6 by omega), Bool.and_true, Bool.and_true, List.all_eq_true]
    constructor
    · intro h m hm
      have hm' := List.mem_range.1 hm
      exact (colB_iff l m hm').2 ⟨(h m (Nat.zero_le _) hm').1, fun j hj => (h j (Nat.zero_le _) (by omega)).2 m hj hm'⟩
    · intro h m _ hm
      refine ⟨((colB_iff l m hm).1 (h m (List.mem_range.2 hm))).1, fun j hj hjl => ?_⟩
      exact ((colB_iff l j hjl).1 (h j (List.mem_range.2 hjl))).2 m hj
  rw [← e]
  exact hb1
theorem cell_may_some (l : List S39) (hsz : ∀ x ∈ l, x.f0.size ≤ 9223372036854775807) : cell_May.f l = some (mayB l) := by unfold cell_May.f; rw [if_pos hsz]
end Go.Proofs.YtpgcepfecmkkaaaDoor.Ref
set_option linter.unusedVariables false
set_option linter.unusedSimpArgs false
namespace Go.Proofs.YtpgcepfecmkkaaaDoor.Ref
open Go.RowKit Go.Proofs.YtpgcepfecmkkaaaDoor Go.Proofs.YtpgcepfecmkkaaaDoorZ.ZA Go.Proofs.YtpgcepfecmkkaaaDoorW.PrintWords

/-- What is wrong with a cell. -/
def wrongB (kd n : Int) (s : ByteArray) : Int := if kd = 2 then (if n = 0 then (if 256 < s.size then 3 else if faultL (tb s) = s.size then 0 else 8) else 1) else if kd = 1 then (if s.size = 0 then 0 else 1) else 6
theorem empty_iff (s : ByteArray) : s.toList = ([] : List UInt8) ↔ s.size = 0 := by
  have e : s.toList = tb s := Lib.toList_data s
  rw [e, ← tb_length]
  constructor
  · intro h; rw [h]; rfl
  · intro h; exact List.eq_nil_of_length_eq_zero h
theorem wrong_some (kd n : Int) (s : ByteArray) : cell_wrong.f kd n s = some (wrongB kd n s) := by
  unfold cell_wrong.f wrongB
  by_cases h1 : kd = 2
  · rw [if_pos h1, if_pos h1]
    by_cases h2 : n = 0
    · rw [if_pos h2, if_pos h2]
      by_cases h3 : 256 < s.size
      · rw [if_pos (show (s.size : Int) > 256 by omega), if_pos h3]
      · rw [if_neg (show ¬ (s.size : Int) > 256 by omega), if_neg h3, may_some s (by omega), Option.bind_some]
        by_cases h4 : faultL (tb s) = s.size
        · rw [if_pos (decide_eq_true h4), if_pos h4]
        · rw [if_neg (by rw [decide_eq_false h4]; simp), if_neg h4]
    · rw [if_neg h2, if_neg h2]
  · rw [if_neg h1, if_neg h1]
    by_cases h2 : kd = 1
    · rw [if_pos h2, if_pos h2]
      by_cases h3 : s.size = 0
      · rw [if_pos ((empty_iff s).2 h3), if_pos h3]
      · rw [if_neg (fun h => h3 ((empty_iff s).1 h)), if_neg h3]
    · rw [if_neg h2, if_neg h2]
theorem ref_cell11 (kd n : Int) (s : ByteArray) : Ev (fun k => incipitref11_Cell.f k kd n s) (wrongB kd n s) := by
  unfold incipitref11_Cell.f
  have bad : wrongB kd n s = 6 → Ev (fun k => incipitref11_Cell.j0 k true kd n s) (wrongB kd n s) := fun h => by
    refine ev1 _ (fun k => by simp only [incipitref11_Cell.j0]; rfl) ?_
    simp only [if_true, h]
    exact Ev.now _
  have bad1 : wrongB kd n s = 1 → Ev (fun k => incipitref11_Cell.j1 k true kd n s) (wrongB kd n s) := fun h => by
    refine ev1 _ (fun k => by simp only [incipitref11_Cell.j1]; rfl) ?_
    simp only [if_true, h]
    exact Ev.now _
  have rest : (wrongB kd n s = if 256 < s.size then 3 else if faultL (tb s) = s.size then 0 else 8) → Ev (fun k => incipitref11_Cell.j1 k false kd n s) (wrongB kd n s) := fun h => by
    refine ev1 _ (fun k => by simp only [incipitref11_Cell.j1]; rfl) ?_
    simp only [Bool.false_eq_true, if_false, h]
    by_cases h3 : 256 < s.size
    · simp only [if_pos (show (s.size : Int) > 256 by omega), if_pos h3]; exact Ev.now _
    · simp only [if_neg (show ¬ (s.size : Int) > 256 by omega), if_neg h3]
      refine Ev.bind (ref_may s (by omega)) ?_
      by_cases h4 : faultL (tb s) = s.size
      · simp only [decide_eq_true h4, if_true, if_pos h4]; exact Ev.now _
      · simp only [decide_eq_false h4, Bool.false_eq_true, if_false, if_neg h4]; exact Ev.now _
  by_cases h1 : kd < 1
  · simp only [if_pos h1]; exact bad (by unfold wrongB; rw [if_neg (by omega), if_neg (by omega)])
  by_cases h2 : kd > 2
  · simp only [if_neg h1, decide_eq_true h2]; exact bad (by unfold wrongB; rw [if_neg (by omega), if_neg (by omega)])
  simp only [if_neg h1, decide_eq_false h2]
  refine ev1 _ (fun k => by simp only [incipitref11_Cell.j0]; rfl) ?_
  simp only [Bool.false_eq_true, if_false]
  by_cases h3 : kd = 1
  · simp only [if_pos h3, if_neg (show ¬ kd = 2 by omega)]
    by_cases h4 : s.size = 0
    · simp only [if_pos ((empty_iff s).2 h4)]
      refine rest ?_
      have hf : faultL (tb s) = 0 := by rw [List.eq_nil_of_length_eq_zero (by rw [tb_length]; exact h4 : (tb s).length = 0)]; rfl
      unfold wrongB
      rw [if_neg (by omega), if_pos h3, if_pos h4, if_neg (by omega), if_pos (by omega)]
    · simp only [if_neg (fun h => h4 ((empty_iff s).1 h))]
      exact bad1 (by unfold wrongB; rw [if_neg (by omega), if_pos h3, if_neg h4])
  · simp only [if_neg h3, if_pos (show kd = 2 by omega)]
    by_cases h4 : n = 0
    · simp only [show (n != 0) = false by rw [h4]; rfl]
      exact rest (by unfold wrongB; rw [if_pos (by omega), if_pos h4])
    · simp only [show (n != 0) = true from bne_iff_ne.2 h4]
      exact bad1 (by unfold wrongB; rw [if_pos (by omega), if_neg h4])
theorem fits_loop (cols : List S39) (l : List S56) (hl : l.length ≤ 100) (he : l.length = cols.length) : ∀ (d i : Nat), l.length - i = d → i ≤ l.length →
    ∃ r, Ev (fun k => cell_Fits.l0 k cols l (l.length : Int) (i : Int)) r ∧ Ev (fun k => incipitref11_Fits.l0 k cols l (i : Int)) r := by
  intro d
  induction d with
  | zero =>
    intro i hd hi
    refine ⟨0, ?_, ?_⟩
    · refine ev1 _ (fun k => by simp only [cell_Fits.l0]; rfl) ?_
      simp only [if_neg (show ¬ (i : Int) < (l.length : Int) by omega)]
      exact Ev.now _
    · refine ev1 _ (fun k => by simp only [incipitref11_Fits.l0]; rfl) ?_
      simp only [if_neg (show ¬ (i : Int) < (l.length : Int) by omega)]
      exact Ev.now _
  | succ d ih =>
    intro i hd hi
    have hw : wrap64 ((i : Int) + 1) = ((i + 1 : Nat) : Int) := by rw [w64 (by omega) (by omega)]; omega
    obtain ⟨r, h1, h2⟩ := ih (i + 1) (by omega) (by omega)
    by_cases hk : (rd_T56 l (i : Int)).f0 = (rd_T39 cols (i : Int)).f1
    · by_cases hz : wrongB (rd_T56 l (i : Int)).f0 (rd_T56 l (i : Int)).f1 (rd_T56 l (i : Int)).f2 = 0
      · refine ⟨r, ?_, ?_⟩
        · refine ev1 _ (fun k => by simp only [cell_Fits.l0]; rfl) ?_
          simp only [if_pos (show (i : Int) < (l.length : Int) by omega), if_pos (show (0 : Int) ≤ (i : Int) by omega), if_pos (show (i : Int) < (cols.length : Int) by omega), if_pos hk]
          refine bind1 (wrong_some _ _ _) ?_
          simp only [if_pos hz, hw]
          exact h1
        · refine ev1 _ (fun k => by simp only [incipitref11_Fits.l0]; rfl) ?_
          simp only [if_pos (show (i : Int) < (l.length : Int) by omega), if_pos (show (0 : Int) ≤ (i : Int) by omega), if_pos (show (i : Int) < (cols.length : Int) by omega), if_pos hk]
          refine Ev.bind (ref_cell11 _ _ _) ?_
          simp only [if_pos hz, hw]
          exact h2
      · refine ⟨wrongB (rd_T56 l (i : Int)).f0 (rd_T56 l (i : Int)).f1 (rd_T56 l (i : Int)).f2, ?_, ?_⟩
        · refine ev1 _ (fun k => by simp only [cell_Fits.l0]; rfl) ?_
          simp only [if_pos (show (i : Int) < (l.length : Int) by omega), if_pos (show (0 : Int) ≤ (i : Int) by omega), if_pos (show (i : Int) < (cols.length : Int) by omega), if_pos hk]
          refine bind1 (wrong_some _ _ _) ?_
          simp only [if_neg hz]
          exact Ev.now _
        · refine ev1 _ (fun k => by simp only [incipitref11_Fits.l0]; rfl) ?_
          simp only [if_pos (show (i : Int) < (l.length : Int) by omega), if_pos (show (0 : Int) ≤ (i : Int) by omega), if_pos (show (i : Int) < (cols.length : Int) by omega), if_pos hk]
          refine Ev.bind (ref_cell11 _ _ _) ?_
          simp only [if_neg hz]
          exact Ev.now _
    · refine ⟨6, ?_, ?_⟩
      · refine ev1 _ (fun k => by simp only [cell_Fits.l0]; rfl) ?_
        simp only [if_pos (show (i : Int) < (l.length : Int) by omega), if_pos (show (0 : Int) ≤ (i : Int) by omega), if_pos (show (i : Int) < (cols.length : Int) by omega), if_neg hk]
        exact Ev.now _
      · refine ev1 _ (fun k => by simp only [incipitref11_Fits.l0]; rfl) ?_
        simp only [if_pos (show (i : Int) < (l.length : Int) by omega), if_pos (show (0 : Int) ≤ (i : Int) by omega), if_pos (show (i : Int) < (cols.length : Int) by omega), if_neg hk]
        exact Ev.now _
theorem fits_same (cols : List S39) (l : List S56) (hl : l.length ≤ 100) (hsz : ∀ x ∈ cols, x.f0.size ≤ 9223372036854775807) : ∃ r, Ev (fun k => cell_Fits.f k cols l) r ∧ Ev (fun k => incipitref11_Fits.f k cols l) r := by
  have o1 : Ev (fun k => cell_Fits.j0 k cols l true) 1 := by
    refine ev1 _ (fun k => by simp only [cell_Fits.j0]; rfl) ?_
    simp only [if_true]
    exact Ev.now _
  have o2 : Ev (fun k => incipitref11_Fits.j0 k cols l true) 1 := by
    refine ev1 _ (fun k => by simp only [incipitref11_Fits.j0]; rfl) ?_
    simp only [if_true]
    exact Ev.now _
  unfold cell_Fits.f incipitref11_Fits.f
  cases hm : mayB cols with
  | false =>
    refine ⟨1, ?_, ?_⟩
    · refine bind1 (cell_may_some cols hsz) ?_
      simp only [hm, Bool.false_eq_true, if_false]
      exact o1
    · refine Ev.bind (ref_may11 cols hsz) ?_
      simp only [hm, Bool.false_eq_true, if_false]
      exact o2
  | true =>
    by_cases he : l.length = cols.length
    · obtain ⟨r, h1, h2⟩ := fits_loop cols l hl he _ 0 rfl (Nat.zero_le _)
      have hb : ((l.length : Int) != (cols.length : Int)) = false := by rw [he, bne_self_eq_false]
      refine ⟨r, ?_, ?_⟩
      · refine bind1 (cell_may_some cols hsz) ?_
        simp only [hm, if_true, hb]
        refine ev1 _ (fun k => by simp only [cell_Fits.j0]; rfl) ?_
        simp only [Bool.false_eq_true, if_false]
        exact h1
      · refine Ev.bind (ref_may11 cols hsz) ?_
        simp only [hm, if_true, hb]
        refine ev1 _ (fun k => by simp only [incipitref11_Fits.j0]; rfl) ?_
        simp only [Bool.false_eq_true, if_false]
        exact h2
    · have hb : ((l.length : Int) != (cols.length : Int)) = true := by rw [bne_iff_ne]; omega
      refine ⟨1, ?_, ?_⟩
      · refine bind1 (cell_may_some cols hsz) ?_
        simp only [hm, if_true, hb]
        exact o1
      · refine Ev.bind (ref_may11 cols hsz) ?_
        simp only [hm, if_true, hb]
        exact o2
theorem wide_from (l : List S56) : ∀ (d i : Nat), 101 - i = d → i ≤ 101 → i ≤ l.length → ∃ b, Ev (fun k => incipitlaw11_wide.l0 k l (i : Int)) b ∧ (b = false → l.length ≤ 100 ∧ ∀ m, i ≤ m → m < l.length → (rd_T56 l (m : Int)).f2.size ≤ 5000) := by
  intro d
  have last : ∀ i : Nat, (l.length ≤ i ∨ 101 ≤ i) → i ≤ l.length → ∃ b, Ev (fun k => incipitlaw11_wide.j1 k l (i : Int) false) b ∧ (b = false → l.length ≤ 100 ∧ ∀ m, i ≤ m → m < l.length → (rd_T56 l (m : Int)).f2.size ≤ 5000) := fun i hi hil => by
    refine ⟨decide ((l.length : Int) > 100), ?_, fun h => ?_⟩
    · refine ev1 _ (fun k => by simp only [incipitlaw11_wide.j1]; rfl) ?_
      simp only [Bool.false_eq_true, if_false]
      exact Ev.now _
    · have := of_decide_eq_false h
      exact ⟨by omega, fun m h1 h2 => by omega⟩
  induction d with
  | zero =>
    intro i hd hi hil
    obtain ⟨b, h1, h2⟩ := last i (.inr (by omega)) hil
    refine ⟨b, ?_, h2⟩
    refine ev1 _ (fun k => by simp only [incipitlaw11_wide.l0]; rfl) ?_
    by_cases hlt : (i : Int) < (l.length : Int)
    · simp only [if_pos hlt, decide_eq_false (show ¬ (i : Int) < 101 by omega)]; exact h1
    · simp only [if_neg hlt]; exact h1
  | succ d ih =>
    intro i hd hi hil
    by_cases hlt : i < l.length
    · have hw : wrap64 ((i : Int) + 1) = ((i + 1 : Nat) : Int) := by rw [w64 (by omega) (by omega)]; omega
      by_cases hbig : 5000 < (rd_T56 l (i : Int)).f2.size
      · refine ⟨true, ?_, fun h => (by cases h)⟩
        refine ev1 _ (fun k => by simp only [incipitlaw11_wide.l0]; rfl) ?_
        simp only [if_pos (show (i : Int) < (l.length : Int) by omega), decide_eq_true (show (i : Int) < 101 by omega)]
        refine ev1 _ (fun k => by simp only [incipitlaw11_wide.j1]; rfl) ?_
        simp only [if_true, if_pos (show (0 : Int) ≤ (i : Int) by omega), if_pos (show (i : Int) < (l.length : Int) by omega), if_pos (show ((rd_T56 l (i : Int)).f2.size : Int) > 5000 by omega)]
        exact Ev.now _
      · obtain ⟨b, h1, h2⟩ := ih (i + 1) (by omega) (by omega) (by omega)
        refine ⟨b, ?_, fun h => ⟨(h2 h).1, fun m hm hml => ?_⟩⟩
        · refine ev1 _ (fun k => by simp only [incipitlaw11_wide.l0]; rfl) ?_
          simp only [if_pos (show (i : Int) < (l.length : Int) by omega), decide_eq_true (show (i : Int) < 101 by omega)]
          refine ev1 _ (fun k => by simp only [incipitlaw11_wide.j1]; rfl) ?_
          simp only [if_true, if_pos (show (0 : Int) ≤ (i : Int) by omega), if_pos (show (i : Int) < (l.length : Int) by omega), if_neg (show ¬ ((rd_T56 l (i : Int)).f2.size : Int) > 5000 by omega), hw]
          exact h1
        · rcases Nat.eq_or_lt_of_le hm with h3 | h3
          · rw [← h3]; omega
          · exact (h2 h).2 m h3 hml
    · obtain ⟨b, h1, h2⟩ := last i (.inl (by omega)) hil
      refine ⟨b, ?_, h2⟩
      refine ev1 _ (fun k => by simp only [incipitlaw11_wide.l0]; rfl) ?_
      simp only [if_neg (show ¬ (i : Int) < (l.length : Int) by omega)]
      exact h1
theorem wide_ev (l : List S56) : ∃ b, Ev (fun k => incipitlaw11_wide.f k l) b ∧ (b = false → l.length ≤ 100 ∧ ∀ m : Nat, m < l.length → (rd_T56 l (m : Int)).f2.size ≤ 5000) := by
  obtain ⟨b, h1, h2⟩ := wide_from l _ 0 rfl (by omega) (Nat.zero_le _)
  exact ⟨b, h1, fun h => ⟨(h2 h).1, fun m hm => (h2 h).2 m (Nat.zero_le _) hm⟩⟩
theorem same_from (l : List S56) (hl : l.length ≤ 1000000) : ∀ (d i : Nat), l.length - i = d → i ≤ l.length → Ev (fun k => incipitref11_Same.l0 k l l (i : Int)) true := by
  intro d
  induction d with
  | zero =>
    intro i hd hi
    refine ev1 _ (fun k => by simp only [incipitref11_Same.l0]; rfl) ?_
    simp only [if_neg (show ¬ (i : Int) < (l.length : Int) by omega)]
    exact Ev.now _
  | succ d ih =>
    intro i hd hi
    refine ev1 _ (fun k => by simp only [incipitref11_Same.l0]; rfl) ?_
    simp only [if_pos (show (i : Int) < (l.length : Int) by omega), if_pos (show (0 : Int) ≤ (i : Int) by omega), beq_self_eq_true, Bool.not_true, Bool.or_false, Bool.false_eq_true, if_false]
    rw [w64 (by omega) (by omega)]
    exact ih (i + 1) (by omega) (by omega)
theorem same_self (l : List S56) (hl : l.length ≤ 1000000) : Ev (fun k => incipitref11_Same.f k l l) true := by
  unfold incipitref11_Same.f
  simp only [if_true]
  exact same_from l hl l.length 0 (by omega) (by omega)
end Go.Proofs.YtpgcepfecmkkaaaDoor.Ref
set_option linter.unusedVariables false
set_option linter.unusedSimpArgs false
namespace Go.Proofs.YtpgcepfecmkkaaaDoor.Ref
open Go.RowKit Go.Proofs.YtpgcepfecmkkaaaDoor Go.Proofs.YtpgcepfecmkkaaaDoorZ.ZA Go.Proofs.YtpgcepfecmkkaaaDoorW.PrintWords
set_option maxRecDepth 100000 in
theorem awake11_ev : Ev (fun k => incipitlaw11_awake.f k) true := Ev.of incipitlaw11_awake.mono (k := 400) (by decide +kernel)
end Go.Proofs.YtpgcepfecmkkaaaDoor.Ref
set_option linter.unusedVariables false
set_option linter.unusedSimpArgs false
namespace Go.Proofs.YtpgcepfecmkkaaaDoor.Pure
open Go.RowKit Go.Proofs.YtpgcepfecmkkaaaDoor Go.Proofs.YtpgcepfecmkkaaaDoor.Ref Go.Proofs.YtpgcepfecmkkaaaDoorZ.ZA Go.Proofs.YtpgcepfecmkkaaaDoorW.PrintWords
theorem CellFits : incipitlaw11_CellFits.Pure := by
  intro cols l hc hcx hl hlx
  have hsz : ∀ x ∈ cols, x.f0.size ≤ 9223372036854775807 := fun x h => (hcx x h).1
  refine Ev.rounds (r := true) ?_
  unfold incipitlaw11_CellFits.f
  have out : Ev (fun k => incipitlaw11_CellFits.j0 k cols l true) true := by
    refine ev1 _ (fun k => by simp only [incipitlaw11_CellFits.j0]; rfl) ?_
    simp only [if_true]
    exact Ev.bind awake11_ev (Ev.now _)
  by_cases h : (cols.length : Int) > 100
  · simp only [if_pos h]; exact out
  simp only [if_neg h]
  obtain ⟨b, h1, h2⟩ := wide_ev l
  refine Ev.bind h1 ?_
  cases b with
  | true => exact out
  | false =>
    obtain ⟨h3, _⟩ := h2 rfl
    refine ev1 _ (fun k => by simp only [incipitlaw11_CellFits.j0]; rfl) ?_
    simp only [Bool.false_eq_true, if_false]
    refine bind1 rfl ?_
    simp only [List.length_nil, Nat.zero_add, if_pos (show l.length < 4398046511104 by omega), List.nil_append]
    refine bind1 rfl ?_
    obtain ⟨r, f1, f2⟩ := fits_same cols l h3 hsz
    refine Ev.bind f1 ?_
    refine Ev.bind f2 ?_
    simp only [if_true]
    refine Ev.bind (same_self l (by omega)) ?_
    simp only [if_true]
    exact Ev.bind awake11_ev (Ev.now _)
end Go.Proofs.YtpgcepfecmkkaaaDoor.Pure
