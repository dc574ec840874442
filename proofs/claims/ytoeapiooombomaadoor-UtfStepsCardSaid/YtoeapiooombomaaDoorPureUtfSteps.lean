/-
  UtfSteps: the plain law: what the statement's function computes is true for every input.
-/
import Derived.Test.YtoeapiooombomaaDoorUtfRef2
set_option linter.unusedVariables false
set_option linter.unusedSimpArgs false
namespace Go.Proofs.YtoeapiooombomaaDoor.Pure
open Go.RowKit Go.Proofs.YtoeapiooombomaaDoor Go.Proofs.YtoeapiooombomaaDoor.Ref Go.Proofs.YtoeapiooombomaaDoorZ.ZA Go.Proofs.YtoeapiooombomaaDoorW.PrintWords
/-- A code point's bytes. -/
def encL (c : Int) : List UInt8 := (Lib.encodeRuneZ c).map fun n => UInt8.ofNat n.toNat
theorem of_nat (z : Int) (n : Nat) (h : z = (n : Int)) : UInt8.ofNat z.toNat = UInt8.ofNat n := by rw [h, Int.toNat_natCast]
theorem tb_encode (c : Int) (h : pointZ c) : tb (Utf8.encode c) = encL c := by
  have hv : Utf8.valid c = true := by unfold pointZ at h; unfold Utf8.valid; simp; omega
  obtain ⟨n, rfl⟩ := Int.eq_ofNat_of_zero_le (show 0 ≤ c by unfold pointZ at h; omega)
  unfold pointZ at h
  unfold Utf8.encode encL Lib.encodeRuneZ
  rw [hv]
  simp only [if_true, Int.toNat_natCast]
  by_cases c1 : n < 128
  · rw [if_pos c1, if_pos (by omega)]; simp [tb]
  rw [if_neg c1, if_neg (show ¬ (0 ≤ (n : Int) ∧ (n : Int) ≤ 127) by omega)]
  by_cases c2 : n < 2048
  · rw [if_pos c2, if_pos (by omega)]
    simp only [tb, List.map_cons, List.map_nil]
    rw [of_nat (192 + (n : Int) / 64) (192 + n / 64) (by omega), of_nat (128 + (n : Int) % 64) (128 + n % 64) (by omega)]
  rw [if_neg c2, if_neg (show ¬ (128 ≤ (n : Int) ∧ (n : Int) ≤ 2047) by omega)]
  by_cases c3 : n < 65536
  · rw [if_pos c3, if_pos (by omega)]
    simp only [tb, List.map_cons, List.map_nil]
    rw [of_nat (224 + (n : Int) / 4096) (224 + n / 4096) (by omega), of_nat (128 + (n : Int) / 64 % 64) (128 + n / 64 % 64) (by omega), of_nat (128 + (n : Int) % 64) (128 + n % 64) (by omega)]
  rw [if_neg c3, if_neg (by omega), if_pos (by omega)]
  simp only [tb, List.map_cons, List.map_nil]
  rw [of_nat (240 + (n : Int) / 262144) (240 + n / 262144) (by omega), of_nat (128 + (n : Int) / 4096 % 64) (128 + n / 4096 % 64) (by omega), of_nat (128 + (n : Int) / 64 % 64) (128 + n / 64 % 64) (by omega), of_nat (128 + (n : Int) % 64) (128 + n % 64) (by omega)]
theorem nat_of (z : Int) (h : 0 ≤ z ∧ z < 256) : (UInt8.ofNat z.toNat).toNat = z.toNat := by simp; omega
theorem nxt_enc (c : Int) (h : pointZ c) (m : List UInt8) : nxt (encL c ++ m) = (c.toNat, (encL c).length) ∧ 1 ≤ (encL c).length ∧ (encL c).length ≤ 4 := by
  unfold pointZ at h
  unfold encL Lib.encodeRuneZ
  repeat' split
  all_goals simp only [List.map_cons, List.map_nil, List.cons_append, List.nil_append, List.length_cons, List.length_nil]
  · refine ⟨?_, by omega, by omega⟩
    unfold nxt
    simp only [List.length_cons, List.getD_cons_zero, List.getD_cons_succ]
    rw [nat_of _ (by omega), nx_one _ _ _ _ _ (by omega) (by omega)]
  · refine ⟨?_, by omega, by omega⟩
    unfold nxt
    simp only [List.length_cons, List.getD_cons_zero, List.getD_cons_succ]
    rw [nat_of _ (by omega), nat_of _ (by omega), nx_two _ _ _ _ _ ⟨by omega, by omega, by omega, by omega⟩]
    congr 1
    omega
  · refine ⟨?_, by omega, by omega⟩
    unfold nxt
    simp only [List.length_cons, List.getD_cons_zero, List.getD_cons_succ]
    rw [nat_of _ (by omega), nat_of _ (by omega), nat_of _ (by omega), nx_three _ _ _ _ _ ⟨by omega, by omega, by omega, by omega, by omega, by omega⟩]
    congr 1
    omega
  · refine ⟨?_, by omega, by omega⟩
    unfold nxt
    simp only [List.length_cons, List.getD_cons_zero, List.getD_cons_succ]
    rw [nat_of _ (by omega), nat_of _ (by omega), nat_of _ (by omega), nat_of _ (by omega), nx_four _ _ _ _ _ ⟨by omega, by omega, by omega, by omega, by omega, by omega, by omega⟩]
    congr 1
    omega
  · omega
theorem foldl_tb (ns : List Int) : ∀ s : ByteArray, tb (ns.foldl (fun r n => r ++ Utf8.encode n) s) = tb s ++ ns.flatMap fun n => tb (Utf8.encode n) := by
  induction ns with
  | nil => intro s; simp
  | cons n r ih => intro s; rw [List.foldl_cons, ih, tb_append, List.flatMap_cons, List.append_assoc]
def encs (ns : List Int) : List UInt8 := ns.flatMap encL
theorem tb_runes (ns : List Int) (h : ∀ x ∈ ns, pointZ x) : tb (runesBytes ns) = encs ns := by
  unfold runesBytes encs
  rw [foldl_tb]
  have e : tb ByteArray.empty = [] := rfl
  rw [e, List.nil_append]
  induction ns with
  | nil => rfl
  | cons n r ih => rw [List.flatMap_cons, List.flatMap_cons, tb_encode n (h n (by simp)), ih (fun x hx => h x (by simp [hx]))]
theorem take_over (a b : List UInt8) (k : Nat) (h : a.length ≤ k) : (a ++ b).take k = a ++ b.take (k - a.length) := by rw [List.take_append, List.take_of_length_le h]
/-- How far the code points go that end at byte k at most. -/
def reach : List Int → Nat → Nat
  | [], _ => 0
  | c :: r, k => if (encL c).length ≤ k then (encL c).length + reach r (k - (encL c).length) else 0
theorem fault_reach : ∀ (ns : List Int) (k : Nat), (∀ x ∈ ns, pointZ x) → faultL ((encs ns).take k) = reach ns k := by
  intro ns
  induction ns with
  | nil => intro k _; rw [show (encs ([] : List Int)).take k = [] by simp [encs]]; rfl
  | cons c r ih =>
    intro k h
    have hc := h c (by simp)
    have ht : ∀ x ∈ r, pointZ x := fun x hx => h x (by simp [hx])
    have e : encs (c :: r) = encL c ++ encs r := rfl
    rw [e, reach]
    by_cases hk : (encL c).length ≤ k
    · rw [if_pos hk, take_over (encL c) (encs r) k hk]
      obtain ⟨h1, h2, h3⟩ := nxt_enc c hc ((encs r).take (k - (encL c).length))
      rw [faultL_eq, h1]
      simp only
      rw [if_pos (by omega), List.drop_left, ih _ ht]
    · rw [if_neg hk]
      obtain ⟨h1, h2, h3⟩ := nxt_enc c hc (encs r)
      have := nxt_cut (encL c ++ encs r) k (by rw [h1]; simp only; omega)
      rw [faultL_eq, this]
      rfl
theorem and24 (n : Int) : Go.bits .and .i64 n 16777215 = n % 16777216 := by
  have h127 : (BitVec.ofInt 64 16777215).toNat = 2 ^ 24 - 1 := by decide
  have key : (BitVec.ofInt 64 n &&& BitVec.ofInt 64 16777215).toNat = (n % ((2 ^ 64 : Nat) : Int)).toNat % 2 ^ 24 := by
    rw [BitVec.toNat_and, BitVec.toNat_ofInt, h127, Nat.and_two_pow_sub_one_eq_mod]
  show IntKind.i64.wrap ((BitVec.ofInt 64 n &&& BitVec.ofInt 64 16777215).toNat : Nat) = n % 16777216
  rw [key, IntKind.wrap_i64]
  omega
theorem reach_all : ∀ (ns : List Int), reach ns (encs ns).length = (encs ns).length := by
  intro ns
  induction ns with
  | nil => rfl
  | cons c r ih =>
    have e : encs (c :: r) = encL c ++ encs r := rfl
    rw [reach, e, List.length_append, if_pos (by omega), Nat.add_sub_cancel_left, ih]
theorem point_some (a : Int) : ∃ p, incipitlaw08_point.f a = some p ∧ pointZ p := by
  unfold incipitlaw08_point.f pointZ
  by_cases h1 : a < 0
  · rw [if_pos h1]; exact ⟨63, rfl, by omega⟩
  rw [if_neg h1]
  by_cases h2 : a > 1114111
  · rw [if_pos h2]; exact ⟨63, rfl, by omega⟩
  rw [if_neg h2]
  have hw : wrap32 a = a := by unfold wrap32; omega
  by_cases h3 : a ≥ 55296
  · rw [if_pos h3]
    by_cases h4 : a ≤ 57343
    · rw [if_pos h4]; exact ⟨63, rfl, by omega⟩
    · rw [if_neg h4, hw]; exact ⟨a, rfl, by omega⟩
  · rw [if_neg h3, hw]; exact ⟨a, rfl, by omega⟩
theorem encs_le (ns : List Int) (h : ∀ x ∈ ns, pointZ x) : (encs ns).length ≤ 4 * ns.length := by
  induction ns with
  | nil => simp [encs]
  | cons c r ih =>
    have e : encs (c :: r) = encL c ++ encs r := rfl
    have h1 := (nxt_enc c (h c (by simp)) []).2.2
    have h2 := ih (fun x hx => h x (by simp [hx]))
    rw [e, List.length_append, List.length_cons]
    omega
set_option maxHeartbeats 1000000 in
/-- The text is gone through: i code points are behind, P bytes; Q: the last end at byte k at most. -/
theorem walk_text (ns : List Int) (k : Nat) (hn : ∀ x ∈ ns, pointZ x) (hlen : ns.length ≤ 500) (hk : k ≤ (encs ns).length) : ∀ (d i P Q : Nat), ns.length - i = d → i ≤ ns.length → P + (encs (ns.drop i)).length = (encs ns).length → (encs ns).drop P = encs (ns.drop i) →
    ((P ≤ k ∧ Q = P ∧ reach ns k = P + reach (ns.drop i) (k - P)) ∨ (k < P ∧ Q = reach ns k)) →
    Ev (fun r => incipitlaw08_UtfSteps.l1 r ns (runesBytes ns) (k : Int) (P : Int) (Q : Int) (i : Int)) true := by
  have htb := tb_runes ns hn
  have hsz : (runesBytes ns).size = (encs ns).length := by rw [← tb_length, htb]
  have hle := encs_le ns hn
  intro d
  induction d with
  | zero =>
    intro i P Q hd hi hP hdr hQ
    obtain rfl : i = ns.length := by omega
    rw [List.drop_length] at hP hQ
    have hP2 : P = (encs ns).length := by simpa [encs] using hP
    have hQ2 : Q = reach ns k := by
      rcases hQ with ⟨_, h2, h3⟩ | ⟨_, h2⟩
      · rw [h3, h2]; rfl
      · exact h2
    refine ev1 _ (fun k => by simp only [incipitlaw08_UtfSteps.l1]; rfl) ?_
    rw [hsz]
    simp only [if_neg (show ¬ ((ns.length : Nat) : Int) < (ns.length : Int) by omega), if_pos (show (P : Int) = ((encs ns).length : Int) by omega)]
    refine bind1 (fault_some (runesBytes ns) (by omega)) ?_
    have hF : faultL (tb (runesBytes ns)) = (encs ns).length := by
      have := fault_reach ns (encs ns).length hn
      rw [List.take_length, reach_all] at this
      rw [htb, this]
    rw [hF]
    simp only [if_pos (show ((encs ns).length : Int) = (P : Int) by omega), if_pos (show (0 : Int) ≤ (k : Int) by omega), if_pos (show (k : Int) ≤ ((encs ns).length : Int) by omega), Int.toNat_natCast]
    have hx : tb ((runesBytes ns).extract 0 k) = (encs ns).take k := by rw [tb_extract, htb, List.drop_zero, Nat.sub_zero]
    refine bind1 (fault_some ((runesBytes ns).extract 0 k) (by rw [← tb_length, hx, List.length_take]; omega)) ?_
    rw [hx, fault_reach ns k hn]
    simp only [if_pos (show ((reach ns k : Nat) : Int) = (Q : Int) by omega)]
    exact bind1 awake_true (Ev.now _)
  | succ d ih =>
    intro i P Q hd hi hP hdr hQ
    have hi2 : i < ns.length := by omega
    have hd2 : ns.drop i = ns[i] :: ns.drop (i + 1) := List.drop_eq_getElem_cons hi2
    have hpt := hn ns[i] (List.getElem_mem hi2)
    obtain ⟨c, hc⟩ : ∃ c, ns[i] = c := ⟨_, rfl⟩
    rw [hc] at hd2 hpt
    have e : encs (c :: ns.drop (i + 1)) = encL c ++ encs (ns.drop (i + 1)) := rfl
    obtain ⟨h1, h2, h3⟩ := nxt_enc c hpt (encs (ns.drop (i + 1)))
    obtain ⟨m, hm⟩ : ∃ m, (encL c).length = m := ⟨_, rfl⟩
    rw [hd2, e] at hP hdr
    rw [hd2] at hQ
    rw [reach] at hQ
    rw [hm] at h1 h2 h3 hQ
    rw [List.length_append, hm] at hP
    have HQ := Go.Proofs.YtoeapiooombomaaDoor.hid hQ
    clear hQ
    have hnext : utf_Next.f (runesBytes ns) (P : Int) = some ((c : Int), (m : Int)) := by
      show some (nextB (runesBytes ns) (P : Int)) = _
      rw [nextB_nat, htb, hdr, h1]
      simp only [Option.some.injEq, Prod.mk.injEq, and_true]
      unfold pointZ at hpt
      omega
    have hrd : rd ns (i : Int) = c := by unfold rd; rw [Int.toNat_natCast, List.getD_eq_getElem?_getD, List.getElem?_eq_getElem hi2, hc]; rfl
    have hw : wrap64 (rd ns (i : Int)) = c := by rw [hrd]; unfold pointZ at hpt; exact w64 (by omega) (by omega)
    have hdr2 : (encs ns).drop (P + m) = encs (ns.drop (i + 1)) := by rw [← List.drop_drop, hdr, ← hm, List.drop_left]
    have hle2 : P + m ≤ (encs ns).length := by omega
    refine ev1 _ (fun k => by simp only [incipitlaw08_UtfSteps.l1]; rfl) ?_
    simp only [if_pos (show (i : Int) < (ns.length : Int) by omega)]
    refine bind1 hnext ?_
    rw [hw]
    simp only [if_pos (show (0 : Int) ≤ (i : Int) by omega), if_true, if_neg (show ¬ (m : Int) < 1 by omega), decide_eq_false (show ¬ (m : Int) > 4 by omega)]
    refine ev1 _ (fun k => by simp only [incipitlaw08_UtfSteps.j2]; rfl) ?_
    have w1 : wrap64 ((P : Int) + (m : Int)) = ((P + m : Nat) : Int) := by rw [w64 (by omega) (by omega)]; omega
    have w2 : wrap64 ((i : Int) + 1) = ((i + 1 : Nat) : Int) := by rw [w64 (by omega) (by omega)]; omega
    rw [w1, w2]
    clear w1 w2 hw hrd hnext h1 hdr htb hd2 hpt e hc
    simp only [Bool.false_eq_true, if_false]
    by_cases hk2 : P + m ≤ k
    · simp only [if_pos (show ((P + m : Nat) : Int) ≤ (k : Int) by omega)]
      refine ih (i + 1) (P + m) (P + m) (by omega) (by omega) (by omega) hdr2 (.inl ⟨hk2, rfl, ?_⟩)
      rcases HQ.out with ⟨q1, q2, q3⟩ | ⟨q1, q2⟩
      · rw [q3, if_pos (by omega), Nat.sub_sub]; omega
      · omega
    · simp only [if_neg (show ¬ ((P + m : Nat) : Int) ≤ (k : Int) by omega)]
      refine ih (i + 1) (P + m) Q (by omega) (by omega) (by omega) hdr2 (.inr ⟨by omega, ?_⟩)
      rcases HQ.out with ⟨q1, q2, q3⟩ | ⟨q1, q2⟩
      · rw [q3, if_neg (by omega), q2]; omega
      · exact q2
theorem make_text (l : List Int) (cut : Int) (hl : l.length ≤ 500) : ∀ (d i : Nat) (acc : List Int), l.length - i = d → i ≤ l.length → acc.length = i → (∀ x ∈ acc, pointZ x) → Ev (fun k => incipitlaw08_UtfSteps.l0 k l cut acc (i : Int)) true := by
  intro d
  induction d with
  | zero =>
    intro i acc hd hi ha hp
    refine ev1 _ (fun k => by simp only [incipitlaw08_UtfSteps.l0]; rfl) ?_
    have htb := tb_runes acc hp
    have hsz : (runesBytes acc).size = (encs acc).length := by rw [← tb_length, htb]
    have hle := encs_le acc hp
    rw [hsz, and24, w64 (x := ((encs acc).length : Int) + 1) (by omega) (by omega)]
    simp only [if_neg (show ¬ (i : Int) < (l.length : Int) by omega), if_neg (show ¬ ((encs acc).length : Int) + 1 = 0 by omega)]
    have hk : Int.tmod (cut % 16777216) (((encs acc).length : Int) + 1) = (cut % 16777216) % (((encs acc).length : Int) + 1) := Int.tmod_eq_emod_of_nonneg (by omega)
    rw [hk]
    have hb1 := Int.emod_nonneg (cut % 16777216) (show ((encs acc).length : Int) + 1 ≠ 0 by omega)
    have hb2 := Int.emod_lt_of_pos (cut % 16777216) (show 0 < ((encs acc).length : Int) + 1 by omega)
    obtain ⟨k, hk2⟩ := Int.eq_ofNat_of_zero_le hb1
    rw [hk2]
    rw [hk2] at hb2
    exact walk_text acc k hp (by omega) (by omega) acc.length 0 0 0 (by omega) (by omega) (by simp) (by simp) (.inl ⟨by omega, rfl, by simp⟩)
  | succ d ih =>
    intro i acc hd hi ha hp
    refine ev1 _ (fun k => by simp only [incipitlaw08_UtfSteps.l0]; rfl) ?_
    obtain ⟨q, hq, hqp⟩ := point_some (rd l (i : Int))
    simp only [if_pos (show (i : Int) < (l.length : Int) by omega), if_pos (show (0 : Int) ≤ (i : Int) by omega)]
    refine bind1 hq ?_
    simp only [if_pos (show acc.length < 35184372088832 by omega)]
    rw [w64 (x := (i : Int) + 1) (by omega) (by omega)]
    refine ih (i + 1) (acc ++ [q]) (by omega) (by omega) (by rw [List.length_append]; simp; omega) (fun x hx => ?_)
    rcases List.mem_append.1 hx with h | h
    · exact hp x h
    · rw [List.mem_singleton.1 h]; exact hqp
theorem UtfSteps : incipitlaw08_UtfSteps.Pure := by
  intro l cut h1 h2 h3 h4
  refine Ev.rounds (r := true) ?_
  unfold incipitlaw08_UtfSteps.f
  by_cases h : (l.length : Int) > 500
  · simp only [if_pos h]
    exact bind1 awake_true (Ev.now _)
  · simp only [if_neg h]
    exact make_text l cut (by omega) l.length 0 [] (by omega) (by omega) rfl (fun x hx => by cases hx)
end Go.Proofs.YtoeapiooombomaaDoor.Pure
