/-
  Plain law: the document's Block makes of eight words what the given program's own step makes.
-/
import Derived.Test.YthhandkckbnafaaShaPlain
set_option linter.unusedVariables false
set_option linter.unusedSimpArgs false
namespace Go.Proofs.Ythhandkckbnafaa
open Go.RowKit Go.Proofs.YthhandkckbnafaaZ.ZA Go.Proofs.YthhandkckbnafaaW.PrintWords
theorem max_bit (e i : Nat) (he : e < 4294967296) (h : e.testBit i = true) : (4294967295 : Nat).testBit i = true := by
  have h1 := Nat.testBit_two_pow_sub_one 32 i
  rw [show (2 ^ 32 - 1 : Nat) = 4294967295 from rfl] at h1
  rw [h1]
  refine decide_eq_true ?_
  rcases Nat.lt_or_ge i 32 with hi | hi
  · exact hi
  · have := Nat.testBit_lt_two_pow (x := e) (i := i) (Nat.lt_of_lt_of_le he (Nat.pow_le_pow_right (by decide) hi : 2 ^ 32 ≤ 2 ^ i))
    rw [this] at h; cases h
theorem ch_or (e f g : Nat) (he : e < 4294967296) : (e &&& f) ||| ((4294967295 ^^^ e) &&& g) = (e &&& f) ^^^ ((4294967295 ^^^ e) &&& g) := by
  apply Nat.eq_of_testBit_eq
  intro i
  simp only [Nat.testBit_or, Nat.testBit_xor, Nat.testBit_and]
  have hm := max_bit e i he
  cases h1 : e.testBit i
  · simp
  · rw [hm h1]; simp
theorem maj_or (a b c : Nat) : ((a &&& b) ||| (a &&& c)) ||| (b &&& c) = ((a &&& b) ^^^ (a &&& c)) ^^^ (b &&& c) := by
  apply Nat.eq_of_testBit_eq
  intro i
  simp only [Nat.testBit_or, Nat.testBit_xor, Nat.testBit_and]
  cases a.testBit i <;> cases b.testBit i <;> cases c.testBit i <;> rfl
theorem ch_ref (e f g : Nat) (he : e < 4294967296) (hf : f < 4294967296) (hg : g < 4294967296) :
    Go.bits .or .u32 (Go.bits .and .u32 (e : Int) (f : Int)) (Go.bits .and .u32 (Go.bits .xor .u32 4294967295 (e : Int)) (g : Int)) = (((e &&& f) ^^^ ((4294967295 ^^^ e) &&& g) : Nat) : Int) := by
  have h1 : e &&& f < 4294967296 := Nat.lt_of_le_of_lt Nat.and_le_left he
  have h2 : 4294967295 ^^^ e < 4294967296 := Nat.xor_lt_two_pow (n := 32) (by decide) he
  have h3 : (4294967295 ^^^ e) &&& g < 4294967296 := Nat.lt_of_le_of_lt Nat.and_le_left h2
  have hm : (4294967295 : Int) = ((4294967295 : Nat) : Int) := rfl
  rw [hm, u32_and_nat _ _ he hf, u32_xor_nat _ _ (by decide) he, u32_and_nat _ _ h2 hg, u32_or_nat _ _ h1 h3, ch_or e f g he]
theorem maj_ref (a b c : Nat) (ha : a < 4294967296) (hb : b < 4294967296) (hc : c < 4294967296) :
    Go.bits .or .u32 (Go.bits .or .u32 (Go.bits .and .u32 (a : Int) (b : Int)) (Go.bits .and .u32 (a : Int) (c : Int))) (Go.bits .and .u32 (b : Int) (c : Int)) = ((((a &&& b) ^^^ (a &&& c)) ^^^ (b &&& c) : Nat) : Int) := by
  have h1 : a &&& b < 4294967296 := Nat.lt_of_le_of_lt Nat.and_le_left ha
  have h2 : a &&& c < 4294967296 := Nat.lt_of_le_of_lt Nat.and_le_left ha
  have h3 : b &&& c < 4294967296 := Nat.lt_of_le_of_lt Nat.and_le_left hb
  rw [u32_and_nat _ _ ha hb, u32_and_nat _ _ ha hc, u32_and_nat _ _ hb hc, u32_or_nat _ _ h1 h2, u32_or_nat _ _ (Nat.or_lt_two_pow (n := 32) h1 h2) h3, maj_or]
theorem blk_round (x0 : List Int) (a b c d e f g h : Nat) (ha : a < 4294967296) (hb : b < 4294967296) (hc : c < 4294967296) (hd : d < 4294967296) (he : e < 4294967296) (hf : f < 4294967296) (hg : g < 4294967296) (hh : h < 4294967296)
    (W Kc : List Nat) (hW : W.length = 64) (hK : Kc.length = 64) (i k : Nat) (hi : i < 64) :
    incipitref01_Block.l0 (k + 1) x0 (ints [a, b, c, d, e, f, g, h]) (ints W) (ints Kc) (i : Int) = incipitref01_Block.l0 k x0 (ints (stepL [a, b, c, d, e, f, g, h] (Kc.getD i 0) (W.getD i 0))) (ints W) (ints Kc) (((i + 1 : Nat) : Nat) : Int) := by
  have hl : (ints [a, b, c, d, e, f, g, h]).length = 8 := rfl
  have r0 : rd (ints [a, b, c, d, e, f, g, h]) 0 = (a : Int) := rfl
  have r1 : rd (ints [a, b, c, d, e, f, g, h]) 1 = (b : Int) := rfl
  have r2 : rd (ints [a, b, c, d, e, f, g, h]) 2 = (c : Int) := rfl
  have r3 : rd (ints [a, b, c, d, e, f, g, h]) 3 = (d : Int) := rfl
  have r4 : rd (ints [a, b, c, d, e, f, g, h]) 4 = (e : Int) := rfl
  have r5 : rd (ints [a, b, c, d, e, f, g, h]) 5 = (f : Int) := rfl
  have r6 : rd (ints [a, b, c, d, e, f, g, h]) 6 = (g : Int) := rfl
  have r7 : rd (ints [a, b, c, d, e, f, g, h]) 7 = (h : Int) := rfl
  have hWl : (ints W).length = 64 := by rw [ints_length, hW]
  have hKl : (ints Kc).length = 64 := by rw [ints_length, hK]
  have w1 : Hid (wrap64 ((i : Int) + 1) = ((i + 1 : Nat) : Int)) := hid <| by unfold wrap64; omega
  have T6 : incipitref01_turn.f (e : Int) 6 = some ((rot e 6 : Nat) : Int) := turn_nat e 6 he (by omega) (by omega)
  have T11 : incipitref01_turn.f (e : Int) 11 = some ((rot e 11 : Nat) : Int) := turn_nat e 11 he (by omega) (by omega)
  have T25 : incipitref01_turn.f (e : Int) 25 = some ((rot e 25 : Nat) : Int) := turn_nat e 25 he (by omega) (by omega)
  have T2 : incipitref01_turn.f (a : Int) 2 = some ((rot a 2 : Nat) : Int) := turn_nat a 2 ha (by omega) (by omega)
  have T13 : incipitref01_turn.f (a : Int) 13 = some ((rot a 13 : Nat) : Int) := turn_nat a 13 ha (by omega) (by omega)
  have T22 : incipitref01_turn.f (a : Int) 22 = some ((rot a 22 : Nat) : Int) := turn_nat a 22 ha (by omega) (by omega)
  have l6 := rot_lt e 6 he (by decide) (by decide)
  have l11 := rot_lt e 11 he (by decide) (by decide)
  have l25 := rot_lt e 25 he (by decide) (by decide)
  have l2 := rot_lt a 2 ha (by decide) (by decide)
  have l13 := rot_lt a 13 ha (by decide) (by decide)
  have l22 := rot_lt a 22 ha (by decide) (by decide)
  rw [incipitref01_Block.l0]
  rw [if_pos (by omega), if_pos (by rw [hl]; decide), if_pos (by rw [hl]; decide), if_pos (by rw [hl]; decide)]
  rw [r0, r1, r2, r3, r4, r5, r6, r7, rd_ints, rd_ints]
  rw [T6, Option.bind_some, T11, Option.bind_some, T25, Option.bind_some, three_nat _ _ _ l6 l11 l25, Option.bind_some]
  rw [if_pos (by rw [hl]; decide), if_pos (by rw [hl]; decide), if_pos (by omega), if_pos (by rw [hKl]; omega), if_pos (by rw [hWl]; omega), if_pos (by rw [hl]; decide), if_pos (by rw [hl]; decide)]
  rw [T2, Option.bind_some, T13, Option.bind_some, T22, Option.bind_some, three_nat _ _ _ l2 l13 l22, Option.bind_some]
  rw [if_pos (by rw [hl]; decide), Option.bind_some, if_pos (by rw [hl]; decide), Option.bind_some]
  rw [ch_ref e f g he hf hg, maj_ref a b c ha hb hc, stepL_eq, w1.out]
  unfold tN uN
  generalize rot e 6 ^^^ rot e 11 ^^^ rot e 25 = S1
  generalize rot a 2 ^^^ rot a 13 ^^^ rot a 22 = S0
  generalize (e &&& f) ^^^ ((4294967295 ^^^ e) &&& g) = CH
  generalize ((a &&& b) ^^^ (a &&& c)) ^^^ (b &&& c) = MJ
  generalize Kc.getD i 0 = kc
  generalize W.getD i 0 = wv
  have e1 : ((((((((h : Int) + (S1 : Int)) % 4294967296 + (CH : Int)) % 4294967296 + (kc : Int)) % 4294967296 + (wv : Int)) % 4294967296 + (((S0 : Int) + (MJ : Int)) % 4294967296)) % 4294967296)) = (((((h + S1 + CH + kc + wv) % 4294967296 + (S0 + MJ) % 4294967296) % 4294967296 : Nat) : Nat) : Int) := by omega
  have e2 : (((d : Int) + ((((((h : Int) + (S1 : Int)) % 4294967296 + (CH : Int)) % 4294967296 + (kc : Int)) % 4294967296 + (wv : Int)) % 4294967296)) % 4294967296) = ((((d + (h + S1 + CH + kc + wv) % 4294967296) % 4294967296 : Nat) : Nat) : Int) := by omega
  rw [e1, e2]
  rw [if_pos (by simp [ints])]
  rfl
theorem blk_rounds (x0 : List Int) (H : List Nat) (B : List UInt8) (hH : Eight H) : ∀ (r i k : Nat), i + r = 64 →
    incipitref01_Block.l0 (r + k + 1) x0 (ints (comp H B i)) (ints (sched B 64)) (ints kN) (i : Int) = incipitref01_Block.l1 k x0 (ints (comp H B 64)) 0 := by
  intro r
  induction r with
  | zero =>
    intro i k h
    have hi : i = 64 := by omega
    subst hi
    rw [show 0 + k + 1 = k + 1 by omega, incipitref01_Block.l0, if_neg (by omega)]
  | succ r ih =>
    intro i k h
    obtain ⟨a, b, c, d, e, f, g, hh, hX, l1, l2, l3, l4, l5, l6, l7, l8⟩ := comp_eight H B hH i
    have hs : comp H B (i + 1) = stepL (comp H B i) (kN.getD i 0) ((sched B 64).getD i 0) := rfl
    rw [show r + 1 + k + 1 = (r + k + 1) + 1 by omega]
    have hr := blk_round x0 a b c d e f g hh l1 l2 l3 l4 l5 l6 l7 l8 (sched B 64) kN (sched_length B 64) rfl i (r + k + 1) (by omega)
    rw [← hX, ← hs] at hr
    rw [hr]
    exact ih (i + 1) k (by omega)
theorem blk_add (H Y : List Nat) (hH : H.length = 8) (hY : Y.length = 8) (i k : Nat) (hi : i < 8) :
    incipitref01_Block.l1 (k + 1) (ints H) (ints Y) (i : Int) = incipitref01_Block.l1 k (ints H) (ints (Y.set i ((Y.getD i 0 + H.getD i 0) % 4294967296))) (((i + 1 : Nat) : Nat) : Int) := by
  have w1 : Hid (wrap64 ((i : Int) + 1) = ((i + 1 : Nat) : Int)) := hid <| by unfold wrap64; omega
  rw [incipitref01_Block.l1, if_pos (by omega), if_pos (by omega), if_pos (by rw [ints_length, hY]; omega), if_pos (by rw [ints_length, hH]; omega), rd_ints, rd_ints, w1.out]
  congr 1
  unfold ints
  rw [List.map_set, Int.toNat_natCast]
  congr 1
theorem blk_l1 (H X : List Nat) (hH : Eight H) (hX : Eight X) (k : Nat) : incipitref01_Block.l1 (k + 9) (ints H) (ints X) 0 = some (ints (addL H X 8)) := by
  obtain ⟨h0, h1, h2, h3, h4, h5, h6, h7, rfl, _⟩ := hH
  obtain ⟨x0, x1, x2, x3, x4, x5, x6, x7, rfl, _⟩ := hX
  have s0 := blk_add [h0, h1, h2, h3, h4, h5, h6, h7] [x0, x1, x2, x3, x4, x5, x6, x7] rfl rfl 0 (k + 8) (by omega)
  have s1 := blk_add [h0, h1, h2, h3, h4, h5, h6, h7] [(x0 + h0) % 4294967296, x1, x2, x3, x4, x5, x6, x7] rfl rfl 1 (k + 7) (by omega)
  have s2 := blk_add [h0, h1, h2, h3, h4, h5, h6, h7] [(x0 + h0) % 4294967296, (x1 + h1) % 4294967296, x2, x3, x4, x5, x6, x7] rfl rfl 2 (k + 6) (by omega)
  have s3 := blk_add [h0, h1, h2, h3, h4, h5, h6, h7] [(x0 + h0) % 4294967296, (x1 + h1) % 4294967296, (x2 + h2) % 4294967296, x3, x4, x5, x6, x7] rfl rfl 3 (k + 5) (by omega)
  have s4 := blk_add [h0, h1, h2, h3, h4, h5, h6, h7] [(x0 + h0) % 4294967296, (x1 + h1) % 4294967296, (x2 + h2) % 4294967296, (x3 + h3) % 4294967296, x4, x5, x6, x7] rfl rfl 4 (k + 4) (by omega)
  have s5 := blk_add [h0, h1, h2, h3, h4, h5, h6, h7] [(x0 + h0) % 4294967296, (x1 + h1) % 4294967296, (x2 + h2) % 4294967296, (x3 + h3) % 4294967296, (x4 + h4) % 4294967296, x5, x6, x7] rfl rfl 5 (k + 3) (by omega)
  have s6 := blk_add [h0, h1, h2, h3, h4, h5, h6, h7] [(x0 + h0) % 4294967296, (x1 + h1) % 4294967296, (x2 + h2) % 4294967296, (x3 + h3) % 4294967296, (x4 + h4) % 4294967296, (x5 + h5) % 4294967296, x6, x7] rfl rfl 6 (k + 2) (by omega)
  have s7 := blk_add [h0, h1, h2, h3, h4, h5, h6, h7] [(x0 + h0) % 4294967296, (x1 + h1) % 4294967296, (x2 + h2) % 4294967296, (x3 + h3) % 4294967296, (x4 + h4) % 4294967296, (x5 + h5) % 4294967296, (x6 + h6) % 4294967296, x7] rfl rfl 7 (k + 1) (by omega)
  refine (s0.trans (s1.trans (s2.trans (s3.trans (s4.trans (s5.trans (s6.trans s7))))))).trans ?_
  rw [incipitref01_Block.l1, if_neg (by omega)]
  rw [Nat.add_comm x0, Nat.add_comm x1, Nat.add_comm x2, Nat.add_comm x3, Nat.add_comm x4, Nat.add_comm x5, Nat.add_comm x6]
  show some (ints [_, _, _, _, _, _, _, (x7 + h7) % 4294967296]) = _
  rw [Nat.add_comm x7]
  rfl
theorem consts_f : incipitref01_constants.f = some (ints kN) := by unfold incipitref01_constants.f; rfl
theorem block_f (H : List Nat) (B : List UInt8) (hH : Eight H) (hB : B.length = 64) : incipitref01_Block.f 146 (ints H) (ofB B) = some (ints (nextH H B)) := by
  have hl : (ints H).length = 8 := by rw [ints_length, Eight.len hH]
  unfold incipitref01_Block.f
  rw [Option.bind_some, if_pos (by rw [hl]; simp), sched_f B hB, Option.bind_some, consts_f, Option.bind_some, List.nil_append]
  have h := blk_rounds (ints H) H B hH 64 0 81 (by omega)
  rw [show 64 + 81 + 1 = 146 by omega] at h
  refine h.trans ?_
  exact blk_l1 H (comp H B 64) hH (comp_eight H B hH 64) 72
/-- What the document reckons is the digest. -/
theorem ref_run (M : List UInt8) (h : M.length < 17592186044416) : RefRun M (padM M) ((padM M).length / 64) (hN (padM M)) where
  msg := msg_f M h
  len := (padM_mod M).symm
  start := rfl
  step := fun i hi => ⟨146, block_f _ _ (hN_eight _ _) (by rw [List.length_take, List.length_drop]; have := padM_mod M; omega)⟩
  eight := fun i _ => hN_eight _ _
end Go.Proofs.Ythhandkckbnafaa
