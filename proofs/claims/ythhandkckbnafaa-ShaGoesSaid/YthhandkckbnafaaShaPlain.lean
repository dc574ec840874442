/-
  Plain laws: the document's Message, schedule and Block answer as the given program's own reckoning does.
-/
import Derived.Test.YthhandkckbnafaaShaRSum
set_option linter.unusedVariables false
set_option linter.unusedSimpArgs false
namespace Go.Proofs.Ythhandkckbnafaa
open Go.RowKit Go.Proofs.YthhandkckbnafaaZ.ZA Go.Proofs.YthhandkckbnafaaW.PrintWords
/-! ### the message -/
def bb : Nat → Nat → List Int
  | _, 0 => []
  | v, r + 1 => bb (v / 256) r ++ [((v % 256 : Nat) : Int)]
theorem bb_length (v r : Nat) : (bb v r).length = r := by induction r generalizing v with | zero => rfl | succ r ih => simp [bb, ih]
theorem l1_go (x3 : List Int) : ∀ (r v : Nat) (x5 : List Int), r ≤ 8 → x5.length = 8 - r → x3.length < 70368744177664 → v < 18446744073709551616 →
    incipitref01_Message.l1 (r + 1) x3 (v : Int) x5 (((8 - r : Nat) : Nat) : Int) = some (x3 ++ (bb v r ++ x5)) := by
  intro r
  induction r with
  | zero =>
    intro v x5 h1 h2 h3 h4
    unfold incipitref01_Message.l1
    rw [if_neg (by omega), if_pos (by omega)]
    simp [bb]
  | succ r ih =>
    intro v x5 h1 h2 h3 h4
    unfold incipitref01_Message.l1
    rw [if_pos (by omega), Option.bind_some]
    have e1 : Hid (Int.tmod (v : Int) 256 % 256 = ((v % 256 : Nat) : Int)) := hid <| by rw [Int.tmod_eq_emod_of_nonneg (by omega)]; omega
    have e2 : Hid (IntKind.u64.wrap (Int.tdiv (v : Int) 256) = ((v / 256 : Nat) : Int)) := hid <| by
      rw [Int.tdiv_eq_ediv_of_nonneg (by omega), show (v : Int) / 256 = ((v / 256 : Nat) : Int) by omega]
      exact wrap_u64n _ (by omega)
    have e3 : Hid (wrap64 ((((8 - (r + 1) : Nat) : Nat) : Int) + 1) = (((8 - r : Nat) : Nat) : Int)) := hid <| by unfold wrap64; omega
    rw [if_pos (by simp; omega), e1.out, e2.out, e3.out, ih (v / 256) ([((v % 256 : Nat) : Int)] ++ x5) (by omega) (by simp; omega) h3 (by omega)]
    simp [bb]
theorem bb8 (v : Nat) : bb v 8 = ofB (be8 v) := by
  rw [ofB_be8]
  simp [bb, Nat.div_div_eq_div_mul]
theorem l0_go (x0 : List Int) (hx0 : x0.length < 35184372088832) : ∀ (z : Nat) (x3 : List Int), (x3.length + z) % 64 = 56 → z < 64 → x3.length + z < 70368744177664 →
    incipitref01_Message.l0 (z + 10) x0 x3 = some (x3 ++ (List.replicate z 0 ++ ofB (be8 (8 * x0.length)))) := by
  intro z
  induction z with
  | zero =>
    intro x3 h1 h2 h3
    rw [show (0 + 10 : Nat) = 9 + 1 from rfl]
    unfold incipitref01_Message.l0
    rw [if_pos (by omega)]
    have e1 : Hid (IntKind.u64.wrap (x0.length : Int) = (x0.length : Int)) := hid <| wrap_u64n _ (by omega)
    have e2 : Hid (IntKind.u64.wrap (8 * (x0.length : Int)) = ((8 * x0.length : Nat) : Int)) := hid <| by
      have := wrap_u64n (8 * x0.length) (by omega)
      rw [← this]; simp
    rw [e1.out, e2.out]
    have := l1_go x3 8 (8 * x0.length) [] (by omega) rfl (by omega) (by omega)
    rw [show (((8 - 8 : Nat) : Nat) : Int) = 0 from rfl] at this
    rw [this, bb8]
    simp
  | succ z ih =>
    intro x3 h1 h2 h3
    rw [show z + 1 + 10 = (z + 10) + 1 by omega]
    unfold incipitref01_Message.l0
    rw [if_neg (by omega), if_pos (by omega), ih (x3 ++ [0]) (by simp; omega) (by omega) (by simp; omega)]
    simp [List.replicate_succ]
theorem msg_f (M : List UInt8) (h : M.length < 17592186044416) : ∃ K, incipitref01_Message.f K (ofB M) = some (ofB (padM M)) := by
  refine ⟨padN M.length + 10, ?_⟩
  unfold incipitref01_Message.f
  have hl : (ofB M).length = M.length := ofB_length M
  rw [Option.bind_some, if_pos (by simp [hl]; omega), Option.bind_some, if_pos (by simp [hl]; omega)]
  have := l0_go (ofB M) (by rw [hl]; omega) (padN M.length) ([] ++ ofB M ++ [128]) (by simp [hl]; unfold padN; omega) (by unfold padN; omega) (by simp [hl]; unfold padN; omega)
  rw [this, hl]
  unfold padM
  simp [ofB_app]
  simp [ofB]
/-! ### the schedule -/
theorem rd_ofB (B : List UInt8) (i : Nat) : rd (ofB B) (i : Int) = (((B.getD i 0).toNat : Nat) : Int) := by
  unfold rd ofB
  rw [Int.toNat_natCast, List.getD, List.getElem?_map, List.getD]
  cases B[i]? <;> rfl
theorem rd_ints (L : List Nat) (i : Nat) : rd (ints L) (i : Int) = ((L.getD i 0 : Nat) : Int) := by
  unfold rd ints
  rw [Int.toNat_natCast, List.getD, List.getElem?_map, List.getD]
  cases L[i]? <;> rfl
theorem or_add (x y k : Nat) (h : y < 2 ^ k) : x * 2 ^ k ||| y = x * 2 ^ k + y := by
  have := Nat.shiftLeft_add_eq_or_of_lt h x
  rw [Nat.shiftLeft_eq] at this
  exact this.symm
theorem or_sum (a b c d : Nat) (hb : b < 256) (hc : c < 256) (hd : d < 256) : ((a * 16777216 ||| b * 65536) ||| c * 256) ||| d = 256 * (256 * (256 * a + b) + c) + d := by
  have h1 := or_add a (b * 65536) 24
  have h2 := or_add (a * 256 + b) (c * 256) 16
  have h3 := or_add ((a * 256 + b) * 256 + c) d 8
  simp only [Nat.reducePow] at h1 h2 h3
  have g1 : a * 16777216 ||| b * 65536 = (a * 256 + b) * 65536 := (h1 (by omega)).trans (by omega)
  have g2 : (a * 256 + b) * 65536 ||| c * 256 = ((a * 256 + b) * 256 + c) * 256 := (h2 (by omega)).trans (by omega)
  have g3 : ((a * 256 + b) * 256 + c) * 256 ||| d = 256 * (256 * (256 * a + b) + c) + d := (h3 (by omega)).trans (by omega)
  exact (congrArg (fun z => (z ||| c * 256) ||| d) g1).trans ((congrArg (fun z => z ||| d) g2).trans g3)
theorem sch_l1 (B : List UInt8) (hB : B.length = 64) (i k : Nat) (hi : i < 16) (x3 : List Int) (hx3 : x3.length < 1000) :
    incipitref01_schedule.l1 (k + 5) (ofB B) x3 (i : Int) 0 0 = incipitref01_schedule.l0 k (ofB B) (x3 ++ [((wInit B i : Nat) : Int)]) (((i + 1 : Nat) : Nat) : Int) := by
  have hl : (ofB B).length = 64 := by rw [ofB_length, hB]
  have w0 : ∀ j : Nat, j < 4 → wrap64 (wrap64 (4 * (i : Int)) + (j : Int)) = ((4 * i + j : Nat) : Int) := fun j hj => by unfold wrap64; omega
  have st : ∀ (k' j v : Nat), j < 4 → v < 16777216 → incipitref01_schedule.l1 (k' + 1) (ofB B) x3 (i : Int) (v : Int) (j : Int) = incipitref01_schedule.l1 k' (ofB B) x3 (i : Int) (((256 * v + (B.getD (4 * i + j) 0).toNat : Nat) : Nat) : Int) (((j + 1 : Nat) : Nat) : Int) := by
    intro k' j v hj hv
    have hb := (B.getD (4 * i + j) 0).toNat_lt
    rw [incipitref01_schedule.l1]
    rw [if_pos (by omega), w0 j hj, if_pos (by omega), if_pos (by rw [hl]; omega), rd_ofB]
    rw [show wrap64 ((j : Int) + 1) = (((j + 1 : Nat) : Nat) : Int) by unfold wrap64; omega]
    congr 1
    omega
  have b0 := (B.getD (4 * i + 0) 0).toNat_lt
  have b1 := (B.getD (4 * i + 1) 0).toNat_lt
  have b2 := (B.getD (4 * i + 2) 0).toNat_lt
  have b3 := (B.getD (4 * i + 3) 0).toNat_lt
  have s0 := st (k + 4) 0 0 (by omega) (by omega)
  have s1 := st (k + 3) 1 (256 * 0 + (B.getD (4 * i + 0) 0).toNat) (by omega) (by omega)
  have s2 := st (k + 2) 2 (256 * (256 * 0 + (B.getD (4 * i + 0) 0).toNat) + (B.getD (4 * i + 1) 0).toNat) (by omega) (by omega)
  have s3 := st (k + 1) 3 (256 * (256 * (256 * 0 + (B.getD (4 * i + 0) 0).toNat) + (B.getD (4 * i + 1) 0).toNat) + (B.getD (4 * i + 2) 0).toNat) (by omega) (by omega)
  refine (s0.trans (s1.trans (s2.trans s3))).trans ?_
  rw [incipitref01_schedule.l1]
  rw [if_neg (by omega), if_pos (by omega), show wrap64 ((i : Int) + 1) = (((i + 1 : Nat) : Nat) : Int) by unfold wrap64; omega]
  congr 3
  unfold wInit
  have h := or_sum (B.getD (4 * i + 0) 0).toNat (B.getD (4 * i + 1) 0).toNat (B.getD (4 * i + 2) 0).toNat (B.getD (4 * i + 3) 0).toNat b1 b2 b3
  rw [Nat.add_zero] at h ⊢
  rw [h]
  omega
theorem ints_app (a b : List Nat) : ints (a ++ b) = ints a ++ ints b := by unfold ints; rw [List.map_append]
theorem ints_length (a : List Nat) : (ints a).length = a.length := by unfold ints; rw [List.length_map]
theorem sch_l0 (B : List UInt8) (hB : B.length = 64) : ∀ (r i k : Nat), i + r = 16 → incipitref01_schedule.l0 (6 * r + k + 1) (ofB B) (ints (sched B i)) (i : Int) = incipitref01_schedule.l2 k (ints (sched B 16)) 16 := by
  intro r
  induction r with
  | zero =>
    intro i k h
    have hi : i = 16 := by omega
    subst hi
    rw [show 6 * 0 + k + 1 = k + 1 by omega, incipitref01_schedule.l0, if_neg (by omega)]
  | succ r ih =>
    intro i k h
    rw [show 6 * (r + 1) + k + 1 = (6 * r + k + 1 + 5) + 1 by omega, incipitref01_schedule.l0, if_pos (by omega), sch_l1 B hB i (6 * r + k + 1) (by omega) _ (by rw [ints_length, sched_length]; omega)]
    have e : ints (sched B i) ++ [((wInit B i : Nat) : Int)] = ints (sched B (i + 1)) := by
      show _ = ints (sched B i ++ [if i < 16 then wInit B i else wNext (sched B i) i])
      rw [if_pos (by omega), ints_app]; rfl
    rw [e]
    exact ih (i + 1) k (by omega)
theorem turn_nat (x n : Nat) (hx : x < 4294967296) (h0 : 0 < n) (h1 : n < 32) : incipitref01_turn.f (x : Int) (n : Int) = some ((rot x n : Nat) : Int) := by
  unfold incipitref01_turn.f
  rw [if_pos ⟨by omega, by omega, by omega, by omega⟩, Int.toNat_natCast, Int.toNat_natCast]
  rfl
theorem three_nat (a b c : Nat) (ha : a < 4294967296) (hb : b < 4294967296) (hc : c < 4294967296) : incipitref01_three.f (a : Int) (b : Int) (c : Int) = some (((a ^^^ b ^^^ c : Nat) : Nat) : Int) := by
  unfold incipitref01_three.f
  rw [u32_xor_nat _ _ ha hb, u32_xor_nat _ _ (Nat.xor_lt_two_pow (n := 32) ha hb) hc]
theorem sch_l2 (B : List UInt8) : ∀ (r i : Nat), i + r = 64 → 16 ≤ i → incipitref01_schedule.l2 (r + 1) (ints (sched B i)) (i : Int) = some (ints (sched B 64)) := by
  intro r
  induction r with
  | zero =>
    intro i h h16
    have hi : i = 64 := by omega
    subst hi
    rw [incipitref01_schedule.l2, if_neg (by omega)]
  | succ r ih =>
    intro i h h16
    have hl : ((ints (sched B i)).length : Int) = (i : Int) := by rw [ints_length, sched_length]
    have hll : (ints (sched B i)).length = i := by rw [ints_length, sched_length]
    have w15 : Hid (wrap64 ((i : Int) - 15) = ((i - 15 : Nat) : Int)) := hid <| by unfold wrap64; omega
    have w2 : Hid (wrap64 ((i : Int) - 2) = ((i - 2 : Nat) : Int)) := hid <| by unfold wrap64; omega
    have w16 : Hid (wrap64 ((i : Int) - 16) = ((i - 16 : Nat) : Int)) := hid <| by unfold wrap64; omega
    have w7 : Hid (wrap64 ((i : Int) - 7) = ((i - 7 : Nat) : Int)) := hid <| by unfold wrap64; omega
    have w1 : Hid (wrap64 ((i : Int) + 1) = ((i + 1 : Nat) : Int)) := hid <| by unfold wrap64; omega
    rw [incipitref01_schedule.l2, if_pos (by omega), w15.out, w2.out, w16.out, w7.out, w1.out, hl]
    rw [if_pos (by omega), if_pos (by omega), if_pos (by omega), if_pos (by omega)]
    rw [rd_ints, rd_ints, rd_ints, rd_ints]
    have l15 := sched_lt B i (i - 15)
    have l2 := sched_lt B i (i - 2)
    have l16 := sched_lt B i (i - 16)
    have l7 := sched_lt B i (i - 7)
    have hn : sched B (i + 1) = sched B i ++ [wNext (sched B i) i] := by
      show sched B i ++ [if i < 16 then wInit B i else wNext (sched B i) i] = _
      rw [if_neg (by omega)]
    unfold wNext at hn
    generalize (sched B i).getD (i - 15) 0 = p at l15 hn ⊢
    generalize (sched B i).getD (i - 2) 0 = q at l2 hn ⊢
    generalize (sched B i).getD (i - 16) 0 = y at l16 hn ⊢
    generalize (sched B i).getD (i - 7) 0 = u at l7 hn ⊢
    have d8 : Hid (Int.tdiv (p : Int) 8 % 4294967296 = ((p / 8 : Nat) : Int)) := hid <| by rw [Int.tdiv_eq_ediv_of_nonneg (by omega)]; omega
    have d10 : Hid (Int.tdiv (q : Int) 1024 % 4294967296 = ((q / 1024 : Nat) : Int)) := hid <| by rw [Int.tdiv_eq_ediv_of_nonneg (by omega)]; omega
    have T7 : incipitref01_turn.f (p : Int) 7 = some ((rot p 7 : Nat) : Int) := turn_nat p 7 l15 (by omega) (by omega)
    have T18 : incipitref01_turn.f (p : Int) 18 = some ((rot p 18 : Nat) : Int) := turn_nat p 18 l15 (by omega) (by omega)
    have T17 : incipitref01_turn.f (q : Int) 17 = some ((rot q 17 : Nat) : Int) := turn_nat q 17 l2 (by omega) (by omega)
    have T19 : incipitref01_turn.f (q : Int) 19 = some ((rot q 19 : Nat) : Int) := turn_nat q 19 l2 (by omega) (by omega)
    rw [d8.out, d10.out, T7, Option.bind_some, T18, Option.bind_some, three_nat _ _ _ (rot_lt p 7 l15 (by decide) (by decide)) (rot_lt p 18 l15 (by decide) (by decide)) (by omega), Option.bind_some, T17, Option.bind_some, T19, Option.bind_some,
      three_nat _ _ _ (rot_lt q 17 l2 (by decide) (by decide)) (rot_lt q 19 l2 (by decide) (by decide)) (by omega), Option.bind_some]
    rw [if_pos (by omega), if_pos (by omega), if_pos (by omega), if_pos (by omega), if_pos (by omega)]
    generalize rot p 7 ^^^ rot p 18 ^^^ p / 8 = P at hn ⊢
    generalize rot q 17 ^^^ rot q 19 ^^^ q / 1024 = Q at hn ⊢
    have ev : ((((((y : Int) + (P : Int)) % 4294967296) + (u : Int)) % 4294967296) + (Q : Int)) % 4294967296 = ((((((y + u) % 4294967296 + P) % 4294967296) + Q) % 4294967296 : Nat) : Int) := by omega
    have e : ints (sched B i) ++ [((((((y : Int) + (P : Int)) % 4294967296) + (u : Int)) % 4294967296) + (Q : Int)) % 4294967296] = ints (sched B (i + 1)) := by
      rw [hn, ints_app, ev]
      rfl
    rw [e]
    exact ih (i + 1) (by omega) (by omega)
theorem sched_f (B : List UInt8) (hB : B.length = 64) : incipitref01_schedule.f 146 (ofB B) = some (ints (sched B 64)) := by
  unfold incipitref01_schedule.f
  have h := sch_l0 B hB 16 0 49 (by omega)
  rw [show 6 * 16 + 49 + 1 = 146 by omega] at h
  refine h.trans ?_
  exact sch_l2 B 48 16 (by omega) (by omega)
end Go.Proofs.Ythhandkckbnafaa
