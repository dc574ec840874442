-- Laid by a program of this session (a turned copy of the print).
import Derived.Test.YtpgcepfecmkkaaaDoorZAx0
namespace Go.Proofs.YtpgcepfecmkkaaaDoorZ.ZA
open Go.RowKit Go.Proofs.YtpgcepfecmkkaaaDoorW.PrintWords Go.Proofs.YtpgcepfecmkkaaaDoorW.PrintLast Go.Proofs.YtpgcepfecmkkaaaDoorW.PrintMore
attribute [local go_sem] max2_int min2_int max_two min_two max_three min_three max_four min_four   -- for this text's walks alone
set_option linter.unusedVariables false
set_option linter.unusedSimpArgs false

/-! ### cell_letter: function 31 -/
def cell_letter.f (a0 : Int) (a1 : Bool) : Option (Bool) := if a0 ≥ 97 then (if a0 ≤ 122 then (some true) else (if a1 = true then (some false) else (if a0 ≥ 48 then (if a0 ≤ 57 then (some true) else (some (a0 == 95))) else (some (a0 == 95))))) else (if a1 = true then (some false) else (if a0 ≥ 48 then (if a0 ≤ 57 then (some true) else (some (a0 == 95))) else (some (a0 == 95))))
set_option maxHeartbeats 8000000 in
set_option maxRecDepth 100000 in
theorem cell_letter.calls (a0 : Int) (a1 : Bool) (r : Bool) (w : World) (h : cell_letter.f a0 a1 = some r) :
    Calls Tryd.prog 31 #[.int .u8 a0, .bool a1] w fun e w' => e = .returned (.bool r) ∧ Drawn0 w w' := by
  have H : (if a0 ≥ 97 then (if a0 ≤ 122 then (some true) else (if a1 = true then (some false) else (if a0 ≥ 48 then (if a0 ≤ 57 then (some true) else (some (a0 == 95))) else (some (a0 == 95))))) else (if a1 = true then (some false) else (if a0 ≥ 48 then (if a0 ≤ 57 then (some true) else (some (a0 == 95))) else (some (a0 == 95))))) = some r := h
  clear h
  by_cases c3 : a0 ≥ 97
  · rw [if_pos c3] at H
    have c3b0 : decide (97 ≤ a0) = true := decide_eq_true c3
    clear c3
    by_cases c4 : a0 ≤ 122
    · rw [if_pos c4] at H
      have c4b0 : decide (a0 ≤ 122) = true := decide_eq_true c4
      clear c4
      obtain rfl := Option.some.inj H
      go_enter Tryd.func31, Tryd.ntmps31
      go_wp2
      go_ret
      exact ⟨by first | rfl | (simp; done) | (simp [*]; done), by repeat (first | exact Drawn0.refl _ | apply Drawn0.step)⟩
    · rw [if_neg c4] at H
      have c4b0 : decide (a0 ≤ 122) = false := decide_eq_false c4
      clear c4
      by_cases c5 : a1 = true
      · subst c5
        have H1 : (some false) = some r := by rw [if_pos rfl] at H; exact H
        clear H
        have H := H1
        clear H1
        obtain rfl := Option.some.inj H
        go_enter Tryd.func31, Tryd.ntmps31
        go_wp2
        go_ret
        exact ⟨by first | rfl | (simp; done) | (simp [*]; done), by repeat (first | exact Drawn0.refl _ | apply Drawn0.step)⟩
      · replace c5 := Bool.eq_false_iff.mpr c5
        subst c5
        have H1 : (if a0 ≥ 48 then (if a0 ≤ 57 then (some true) else (some (a0 == 95))) else (some (a0 == 95))) = some r := by rw [if_neg (show ¬ (false = true) by decide)] at H; exact H
        clear H
        have H := H1
        clear H1
        by_cases c6 : a0 ≥ 48
        · rw [if_pos c6] at H
          have c6b0 : decide (48 ≤ a0) = true := decide_eq_true c6
          clear c6
          by_cases c7 : a0 ≤ 57
          · rw [if_pos c7] at H
            have c7b0 : decide (a0 ≤ 57) = true := decide_eq_true c7
            clear c7
            obtain rfl := Option.some.inj H
            go_enter Tryd.func31, Tryd.ntmps31
            go_wp2
            go_ret
            exact ⟨by first | rfl | (simp; done) | (simp [*]; done), by repeat (first | exact Drawn0.refl _ | apply Drawn0.step)⟩
          · rw [if_neg c7] at H
            have c7b0 : decide (a0 ≤ 57) = false := decide_eq_false c7
            clear c7
            obtain rfl := Option.some.inj H
            go_enter Tryd.func31, Tryd.ntmps31
            go_wp2
            go_ret
            exact ⟨by first | rfl | (simp; done) | (simp [*]; done), by repeat (first | exact Drawn0.refl _ | apply Drawn0.step)⟩
        · rw [if_neg c6] at H
          have c6b0 : decide (48 ≤ a0) = false := decide_eq_false c6
          clear c6
          obtain rfl := Option.some.inj H
          go_enter Tryd.func31, Tryd.ntmps31
          go_wp2
          go_ret
          exact ⟨by first | rfl | (simp; done) | (simp [*]; done), by repeat (first | exact Drawn0.refl _ | apply Drawn0.step)⟩
  · rw [if_neg c3] at H
    have c3b0 : decide (97 ≤ a0) = false := decide_eq_false c3
    clear c3
    by_cases c8 : a1 = true
    · subst c8
      have H1 : (some false) = some r := by rw [if_pos rfl] at H; exact H
      clear H
      have H := H1
      clear H1
      obtain rfl := Option.some.inj H
      go_enter Tryd.func31, Tryd.ntmps31
      go_wp2
      go_ret
      exact ⟨by first | rfl | (simp; done) | (simp [*]; done), by repeat (first | exact Drawn0.refl _ | apply Drawn0.step)⟩
    · replace c8 := Bool.eq_false_iff.mpr c8
      subst c8
      have H1 : (if a0 ≥ 48 then (if a0 ≤ 57 then (some true) else (some (a0 == 95))) else (some (a0 == 95))) = some r := by rw [if_neg (show ¬ (false = true) by decide)] at H; exact H
      clear H
      have H := H1
      clear H1
      by_cases c9 : a0 ≥ 48
      · rw [if_pos c9] at H
        have c9b0 : decide (48 ≤ a0) = true := decide_eq_true c9
        clear c9
        by_cases c10 : a0 ≤ 57
        · rw [if_pos c10] at H
          have c10b0 : decide (a0 ≤ 57) = true := decide_eq_true c10
          clear c10
          obtain rfl := Option.some.inj H
          go_enter Tryd.func31, Tryd.ntmps31
          go_wp2
          go_ret
          exact ⟨by first | rfl | (simp; done) | (simp [*]; done), by repeat (first | exact Drawn0.refl _ | apply Drawn0.step)⟩
        · rw [if_neg c10] at H
          have c10b0 : decide (a0 ≤ 57) = false := decide_eq_false c10
          clear c10
          obtain rfl := Option.some.inj H
          go_enter Tryd.func31, Tryd.ntmps31
          go_wp2
          go_ret
          exact ⟨by first | rfl | (simp; done) | (simp [*]; done), by repeat (first | exact Drawn0.refl _ | apply Drawn0.step)⟩
      · rw [if_neg c9] at H
        have c9b0 : decide (48 ≤ a0) = false := decide_eq_false c9
        clear c9
        obtain rfl := Option.some.inj H
        go_enter Tryd.func31, Tryd.ntmps31
        go_wp2
        go_ret
        exact ⟨by first | rfl | (simp; done) | (simp [*]; done), by repeat (first | exact Drawn0.refl _ | apply Drawn0.step)⟩

/-! ### cell_Name: function 9 -/
def cell_Name.l0 : Nat → ByteArray → Int → Int → Option (Bool)
  | 0, _, _, _ => none
  | k + 1, x0, x5, x6 => if x6 < x5 then (if 0 ≤ x6 then (if x6 < (x0.size : Int) then ((cell_letter.f (bt x0 x6) (x6 == 0)).bind fun t101 => (if t101 = true then (cell_Name.l0 k x0 x5 (wrap64 (x6 + 1))) else (some false))) else (none)) else (none)) else (if x0.toList = ([] : List UInt8) then (some false) else (some (decide ((x0.size : Int) ≤ 16))))
def cell_Name.f (k : Nat) (a0 : ByteArray) : Option (Bool) := cell_Name.l0 k a0 (a0.size : Int) 0
theorem cell_Name.mono_l : ∀ k, (∀ y0 y1 y2, LeO (cell_Name.l0 k y0 y1 y2) (cell_Name.l0 (k + 1) y0 y1 y2))
  | 0 => fun _ _ _ r h => by simp [cell_Name.l0] at h
  | k + 1 => by
    have ih0 := cell_Name.mono_l k
    · intro y0 y1 y2
      unfold cell_Name.l0
      repeat' first
      | (with_reducible exact ih0 _ _ _)
      | (with_reducible exact LeO.refl _)
      | (with_reducible exact LeO.none _)
      | (with_reducible refine LeO.ite ?_ ?_)
      | (with_reducible refine LeO.bind ?_ (fun _ => ?_))
      | exact ih0 _ _ _
      | exact LeO.none _
      | refine LeO.ite ?_ ?_
      | refine LeO.bind ?_ (fun _ => ?_)
theorem cell_Name.mono : ∀ a0 k, LeO (cell_Name.f k a0) (cell_Name.f (k + 1) a0) := by
  intro a0 k
  have ih0 := cell_Name.mono_l k
  unfold cell_Name.f
  repeat' first
      | (with_reducible exact ih0 _ _ _)
      | (with_reducible exact LeO.refl _)
      | (with_reducible exact LeO.none _)
      | (with_reducible refine LeO.ite ?_ ?_)
      | (with_reducible refine LeO.bind ?_ (fun _ => ?_))
      | exact ih0 _ _ _
      | exact LeO.none _
      | refine LeO.ite ?_ ?_
      | refine LeO.bind ?_ (fun _ => ?_)
set_option maxHeartbeats 8000000 in
set_option maxRecDepth 100000 in
theorem cell_Name.calls (k : Nat) (a0 : ByteArray) (r : Bool) (w : World) (h : cell_Name.f k a0 = some r) :
    Calls Tryd.prog 9 #[.string a0] w fun e w' => e = .returned (.bool r) ∧ Drawn0 w w' := by
  have H : (cell_Name.l0 k a0 (a0.size : Int) 0) = some r := h
  clear h
  have H' := Aside0.mk H
  clear H
  go_enter Tryd.func9, Tryd.ntmps9
  go_wp2
  go_loopg [6] k (fun kq v6 w' => ∃ (x6_1 : Int), v6 = .int .i64 x6_1 ∧ Aside0 (cell_Name.l0 kq a0 (a0.size : Int) x6_1 = some r) ∧ Aside0 (kq ≤ k) ∧ Drawn0 w w')
  case atStart => exact ⟨(0), (by first | rfl | (simp; done) | (simp [*]; done)), H', ⟨Nat.le_refl _⟩, by repeat (first | exact Drawn0.refl _ | apply Drawn0.step)⟩
  case round =>
    clear H'
    obtain ⟨x6_1, rfl, HA, HK1, ⟨m1, rfl⟩⟩ := hrel
    cases gk with
    | zero => exact absurd HA.out (by simp [cell_Name.l0])
    | succ k1 =>
      have H := HA.out
      clear HA
      simp only [cell_Name.l0] at H
      by_cases c2 : x6_1 < (a0.size : Int)
      · rw [if_pos c2] at H
        have c2b0 : decide (x6_1 < (a0.size : Int)) = true := decide_eq_true c2
        clear c2
        by_cases c3 : 0 ≤ x6_1
        · rw [if_pos c3] at H
          have c3b0 : decide (0 ≤ x6_1) = true := decide_eq_true c3
          clear c3
          by_cases c4 : x6_1 < (a0.size : Int)
          · rw [if_pos c4] at H
            have c4b0 : decide (x6_1 < (a0.size : Int)) = true := decide_eq_true c4
            clear c4
            replace H := Option.bind_eq_some_iff.mp H
            obtain ⟨t101, A60, H⟩ := H
            replace H : (if t101 = true then (cell_Name.l0 k1 a0 (a0.size : Int) (wrap64 (x6_1 + 1))) else (some false)) = some r := H
            have A6 := Aside0.mk A60
            clear A60
            by_cases c7 : t101 = true
            · subst c7
              have H1 : (cell_Name.l0 k1 a0 (a0.size : Int) (wrap64 (x6_1 + 1))) = some r := by rw [if_pos rfl] at H; exact H
              clear H
              have H := H1
              clear H1
              have H' := Aside0.mk H
              clear H
              have p5 : 0 ≤ (x6_1 : Int) := of_decide_eq_true (by first | (with_reducible assumption) | assumption)
              have q5 : x6_1 < (a0.size : Int) := of_decide_eq_true (by first | (with_reducible assumption) | assumption)
              have hx5 := bt_at a0 x6_1
              replace p5 := eq_true p5
              replace q5 := eq_true q5
              go_wp2_with (first | ((with_reducible refine gate_callee (f := 31) rfl ?_); refine goesL_ (some 14) rfl rfl Tryd.func31 (by kernel_rfl) rfl #[.int .u8 (bt a0 x6_1), .bool (x6_1 == 0)] rfl (by (try simp only [List.map_toArray, List.map_cons, List.map_nil]); first | done | rfl | (simp only [List.length_drop, List.length_take]; rfl)) ?_; (with_reducible refine (cell_letter.calls (bt a0 x6_1) (x6_1 == 0) true _ A6.out).mono ?_); rintro e w' ⟨rfl, ⟨nd, rfl⟩⟩; refine ⟨_, rfl, ?_⟩))
              go_roundg k1
              case measure => have := HK1.out; omega
              case rel => exact ⟨(wrap64 (x6_1 + 1)), (by first | rfl | (simp; done) | (simp [*]; done)), H', ⟨by have := HK1.out; omega⟩, by repeat (first | exact Drawn0.refl _ | apply Drawn0.step)⟩
            · replace c7 := Bool.eq_false_iff.mpr c7
              subst c7
              have H1 : (some false) = some r := by rw [if_neg (show ¬ (false = true) by decide)] at H; exact H
              clear H
              have H := H1
              clear H1
              obtain rfl := Option.some.inj H
              have p5 : 0 ≤ (x6_1 : Int) := of_decide_eq_true (by first | (with_reducible assumption) | assumption)
              have q5 : x6_1 < (a0.size : Int) := of_decide_eq_true (by first | (with_reducible assumption) | assumption)
              have hx5 := bt_at a0 x6_1
              replace p5 := eq_true p5
              replace q5 := eq_true q5
              go_wp2_with (first | ((with_reducible refine gate_callee (f := 31) rfl ?_); refine goesL_ (some 14) rfl rfl Tryd.func31 (by kernel_rfl) rfl #[.int .u8 (bt a0 x6_1), .bool (x6_1 == 0)] rfl (by (try simp only [List.map_toArray, List.map_cons, List.map_nil]); first | done | rfl | (simp only [List.length_drop, List.length_take]; rfl)) ?_; (with_reducible refine (cell_letter.calls (bt a0 x6_1) (x6_1 == 0) false _ A6.out).mono ?_); rintro e w' ⟨rfl, ⟨nd, rfl⟩⟩; refine ⟨_, rfl, ?_⟩))
              go_ret
              exact ⟨by first | rfl | (simp; done) | (simp [*]; done), by repeat (first | exact Drawn0.refl _ | apply Drawn0.step)⟩
          · rw [if_neg c4] at H
            exact absurd H (by simp)
        · rw [if_neg c3] at H
          exact absurd H (by simp)
      · rw [if_neg c2] at H
        have c2b0 : decide (x6_1 < (a0.size : Int)) = false := decide_eq_false c2
        clear c2
        by_cases c8 : a0.toList = ([] : List UInt8)
        · rw [if_pos c8] at H
          have c8b0 : (a0.toList == ([] : List UInt8)) = true := beq_iff_eq.mpr c8
          have c8b1 : (a0.toList != ([] : List UInt8)) = false := bne_eq_false_iff_eq.mpr c8
          clear c8
          obtain rfl := Option.some.inj H
          go_wp2
          go_ret
          exact ⟨by first | rfl | (simp; done) | (simp [*]; done), by repeat (first | exact Drawn0.refl _ | apply Drawn0.step)⟩
        · rw [if_neg c8] at H
          have c8b0 : (a0.toList == ([] : List UInt8)) = false := beq_eq_false_iff_ne.mpr c8
          have c8b1 : (a0.toList != ([] : List UInt8)) = true := bne_iff_ne.mpr c8
          obtain rfl := Option.some.inj H
          go_wp2
          go_ret
          exact ⟨by first | rfl | (simp; done) | (simp [*]; done), by repeat (first | exact Drawn0.refl _ | apply Drawn0.step)⟩

/-! ### cell_May: function 11 -/
section
open Go.Proofs.YtpgcepfecmkkaaaDoor hiding below_then below_size hid hidden add_plain
def lb (c : Nat) (ahead : Bool) : Bool := (decide (97 ≤ c) && decide (c ≤ 122)) || (!ahead && ((decide (48 ≤ c) && decide (c ≤ 57)) || decide (c = 95)))
def nameFrom : Nat → List UInt8 → Bool
  | _, [] => true
  | i, c :: r => lb c.toNat (decide (i = 0)) && nameFrom (i + 1) r
def nameB (s : ByteArray) : Bool := nameFrom 0 (tb s) && (decide (0 < s.size) && decide (s.size ≤ 16))
theorem letter_some (c : UInt8) (b : Bool) : cell_letter.f (c.toNat : Int) b = some (lb c.toNat b) := by
  have hc := c.toNat_lt
  unfold cell_letter.f lb
  have e95 : ((c.toNat : Int) == 95) = decide (c.toNat = 95) := by rw [Bool.eq_iff_iff]; simp; omega
  rw [e95]
  cases b
  · by_cases h1 : (c.toNat : Int) ≥ 97
    · rw [if_pos h1, decide_eq_true (show 97 ≤ c.toNat by omega)]
      by_cases h2 : (c.toNat : Int) ≤ 122
      · rw [if_pos h2, decide_eq_true (show c.toNat ≤ 122 by omega)]; rfl
      · rw [if_neg h2, if_neg (by decide), decide_eq_false (show ¬ c.toNat ≤ 122 by omega), if_pos (show (c.toNat : Int) ≥ 48 by omega), if_neg (show ¬ (c.toNat : Int) ≤ 57 by omega), decide_eq_false (show ¬ c.toNat ≤ 57 by omega)]
        simp
    · rw [if_neg h1, decide_eq_false (show ¬ 97 ≤ c.toNat by omega), if_neg (by decide)]
      by_cases h3 : (c.toNat : Int) ≥ 48
      · rw [if_pos h3, decide_eq_true (show 48 ≤ c.toNat by omega)]
        by_cases h4 : (c.toNat : Int) ≤ 57
        · rw [if_pos h4, decide_eq_true (show c.toNat ≤ 57 by omega)]; simp
        · rw [if_neg h4, decide_eq_false (show ¬ c.toNat ≤ 57 by omega)]; simp
      · rw [if_neg h3, decide_eq_false (show ¬ 48 ≤ c.toNat by omega)]; simp
  · by_cases h1 : (c.toNat : Int) ≥ 97
    · rw [if_pos h1, decide_eq_true (show 97 ≤ c.toNat by omega)]
      by_cases h2 : (c.toNat : Int) ≤ 122
      · rw [if_pos h2, decide_eq_true (show c.toNat ≤ 122 by omega)]; rfl
      · rw [if_neg h2, if_pos rfl, decide_eq_false (show ¬ c.toNat ≤ 122 by omega)]; rfl
    · rw [if_neg h1, decide_eq_false (show ¬ 97 ≤ c.toNat by omega), if_pos rfl]; rfl
theorem btN_at (s : ByteArray) (i : Nat) (h : i < s.size) : bt s (i : Int) = (((tb s)[i]'(by rw [tb_length]; exact h)).toNat : Int) := by
  unfold bt
  simp only [Int.toNat_natCast]
  rw [dif_pos h]
  rfl
theorem name_from (s : ByteArray) (hs : s.size ≤ 9223372036854775807) : ∀ (d i : Nat), s.size - i = d → i ≤ s.size → cell_Name.l0 (d + 1) s (s.size : Int) (i : Int) = some (nameFrom i ((tb s).drop i) && (decide (0 < s.size) && decide (s.size ≤ 16))) := by
  intro d
  induction d with
  | zero =>
    intro i hd hi
    rw [cell_Name.l0, if_neg (by omega), List.drop_of_length_le (by rw [tb_length]; omega)]
    have e : s.toList = tb s := Lib.toList_data s
    rw [e]
    by_cases h0 : tb s = []
    · have hz : s.size = 0 := by rw [← tb_length, h0]; rfl
      rw [if_pos h0, hz]; rfl
    · have hz : 0 < s.size := by rw [← tb_length]; exact List.length_pos_iff.2 h0
      rw [if_neg h0]
      simp only [nameFrom, Bool.true_and, decide_eq_true hz]
      congr 1
      rw [Bool.eq_iff_iff]
      simp
      omega
  | succ d ih =>
    intro i hd hi
    have hlt : i < s.size := by omega
    rw [cell_Name.l0, if_pos (by omega), if_pos (by omega), if_pos (by omega), btN_at s i hlt, letter_some, Option.bind_some, List.drop_eq_getElem_cons (by rw [tb_length]; exact hlt), nameFrom]
    have hz : ((i : Int) == 0) = decide (i = 0) := by rw [Bool.eq_iff_iff]; simp
    rw [hz]
    cases hb : lb ((tb s)[i]'(by rw [tb_length]; exact hlt)).toNat (decide (i = 0)) with
    | true =>
      rw [if_pos rfl]
      have hw : wrap64 ((i : Int) + 1) = ((i + 1 : Nat) : Int) := by unfold wrap64; omega
      rw [hw, ih (i + 1) (by omega) (by omega), Bool.true_and]
    | false => rw [if_neg (by decide)]; rfl
theorem name_some (s : ByteArray) (hs : s.size ≤ 9223372036854775807) : cell_Name.f (s.size + 1) s = some (nameB s) := by
  unfold cell_Name.f nameB
  exact name_from s hs s.size 0 rfl (Nat.zero_le _)
/-- May the column at i be, after those ahead of it? -/
def colB (l : List S39) (i : Nat) : Bool := nameB (rd_T39 l (i : Int)).f0 && ((decide ((rd_T39 l (i : Int)).f1 = 1) || decide ((rd_T39 l (i : Int)).f1 = 2)) && !((l.take i).any fun x => decide (x.f0.toList = (rd_T39 l (i : Int)).f0.toList)))
def mayB (l : List S39) : Bool := ((List.range l.length).all fun i => colB l i) && (decide (0 < l.length) && decide (l.length ≤ 6))
def cell_May.f (l0 : List S39) : Option Bool := if (∀ x ∈ l0, x.f0.size ≤ 9223372036854775807) then some (mayB l0) else none
theorem eq1_calls (x : S39) (s : ByteArray) (g : Nat) (w : World) (hg : w.cell? ⟨g, 0, none⟩ = some (.string s)) :
    Calls Tryd.prog 33 #[.agg #[.string x.f0, .int .i64 x.f1], .pointer (some ⟨g, 0, none⟩)] w fun e w' => e = .returned (.bool (decide (x.f0.toList = s.toList))) ∧ Below w.heap.size w w' := by
  have hgl : g < w.heap.size := World.block_lt_of_cell? w ⟨g, 0, none⟩ hg
  have hg2 : (w.alloc (.cells #[.string x.f0, .int .i64 x.f1] 39)).cell? ⟨g, 0, none⟩ = some (.string s) := by rw [World.cell?_alloc_lt w _ _ hgl]; exact hg
  go_enter Tryd.func33, Tryd.ntmps33
  go_wp2
  go_ret
  exact ⟨by rw [show decide (x.f0.toList = s.toList) = (x.f0.toList == s.toList) from by rw [Bool.eq_iff_iff]; simp]; rfl, (Below.refl _ _).alloc (Nat.le_refl _) _⟩
/-- Is a text among the names of columns? -/
def amongB (l : List S39) (s : ByteArray) : Bool := l.any fun x => decide (x.f0.toList = s.toList)
set_option maxHeartbeats 2000000 in
theorem idx_calls (A : Option Addr) (c : Nat) (l : List S39) (s : ByteArray) (g : Nat) (w : World) (hr : Kd.C k39 w A l.length l) (hg : w.cell? ⟨g, 0, none⟩ = some (.string s)) :
    Calls Tryd.prog 49 #[.slice A l.length c, .func (Fn.func 33) #[] #[.pointer (some ⟨g, 0, none⟩)]] w fun e w' => (∃ r : Int, e = .returned (.int .i64 r) ∧ decide (0 ≤ r) = amongB l s) ∧ Below w.heap.size w w' := by
  have hmax := hr.2.1
  have hgl : g < w.heap.size := World.block_lt_of_cell? w ⟨g, 0, none⟩ hg
  have HR := hid hr
  have HG := hid hg
  clear hr hg
  go_enter Tryd.func49, Tryd.ntmps49
  go_wp2_with fail
  go_loopw [8] (fun i wr => ∃ k : Nat, k ≤ l.length ∧ i = .int .i64 (k : Int) ∧ Hid (amongB (l.take k) s = false) ∧ Below w.heap.size w wr) (fun i _ => l.length - (intOf i).toNat)
  case atStart => exact ⟨0, Nat.zero_le _, rfl, hid rfl, Below.refl _ _⟩
  case round =>
    obtain ⟨k, hk, rfl, hno, hb⟩ := hrel
    have hbs := hb.size
    by_cases hlt : k < l.length
    · have p1 : (0 : Int) ≤ (k : Int) := by omega
      have p2 : (k : Int) < (l.length : Int) := by omega
      obtain ⟨ad, e1, hx0, hx1⟩ := at_T39 (Kd.C_below HR.out hb) (k : Int) p1 p2
      subst e1
      have e2 : ((k : Int)).toNat = k := by omega
      rw [e2] at hx0 hx1
      clear e2
      have hxl : rd_T39 l (k : Int) = l[k] := by simp [rd_T39, List.getD, hlt]
      have hsn : amongB (l.take (k + 1)) s = (amongB (l.take k) s || decide (l[k].f0.toList = s.toList)) := by
        unfold amongB
        rw [List.take_succ_eq_append_getElem hlt, List.any_append]
        simp
      have hall : decide (l[k].f0.toList = s.toList) = true → amongB l s = true := fun h => by
        unfold amongB
        exact List.any_eq_true.2 ⟨l[k], List.getElem_mem hlt, h⟩
      rw [hxl] at hx0 hx1
      obtain ⟨x, hX⟩ := hidden l[k]
      rw [hX.out] at hx0 hx1 hsn hall
      obtain ⟨bb, hbb⟩ := hidden (decide (x.f0.toList = s.toList))
      rw [hbb.out] at hsn hall
      have HS := hid hsn
      have HA := hid hall
      clear hsn hall hxl
      have hc := eq1_calls x s g wr ((hb.cell (p := ⟨g, 0, none⟩) hgl).trans HG.out)
      rw [hbb.out] at hc
      have HCC := hid hc
      clear hc
      cases bb with
      | true =>
        go_wp2_with (go_at_call 33; refine HCC.out.mono ?_; rintro e w2 ⟨rfl, hb2⟩)
        go_ret
        exact ⟨⟨(k : Int), rfl, by rw [HA.out (by simp)]; exact decide_eq_true p1⟩, below_then hb hbs hb2⟩
      | false =>
        go_wp2_with (go_at_call 33; refine HCC.out.mono ?_; rintro e w2 ⟨rfl, hb2⟩)
        go_roundw
        case rel => exact ⟨k + 1, by omega, by go_num, hid (by rw [HS.out, hno.out]; rfl), below_then hb hbs hb2⟩
        case measure => simp [intOf]; omega
    · have hn2 := hno.out
      rw [List.take_of_length_le (by omega)] at hn2
      have HN := hid hn2
      clear hn2
      go_wp2_with fail
      go_ret
      exact ⟨⟨-1, rfl, by rw [HN.out]; rfl⟩, hb⟩
theorem cf_calls (A : Option Addr) (c : Nat) (l : List S39) (s : ByteArray) (g : Nat) (w : World) (hr : Kd.C k39 w A l.length l) (hg : w.cell? ⟨g, 0, none⟩ = some (.string s)) :
    Calls Tryd.prog 32 #[.slice A l.length c, .func (Fn.func 33) #[] #[.pointer (some ⟨g, 0, none⟩)]] w fun e w' => e = .returned (.bool (amongB l s)) ∧ Below w.heap.size w w' := by
  go_enter Tryd.func32, Tryd.ntmps32
  go_wp2_with fail
  refine (idx_calls A c l s g w hr hg).mono ?_
  rintro e w2 ⟨⟨r, rfl, hre⟩, hb⟩
  have HRE := hid hre
  clear hre
  go_wp2_with fail
  go_ret
  exact ⟨by rw [← HRE.out]; first | rfl | (congr 2; simp), hb⟩
theorem C_take {α : Type} {d : Kd α} {w : World} {A : Option Addr} {xs : List α} (h : d.C w A xs.length xs) (k : Nat) (hk : k ≤ xs.length) : d.C w A (xs.take k).length (xs.take k) := by
  refine ⟨rfl, by have := h.2.1; rw [List.length_take]; omega, fun hn => ?_⟩
  rw [List.length_take] at hn
  obtain ⟨ad, e, hc⟩ := h.2.2 (by omega)
  refine ⟨ad, e, fun j p hj => hc j p ?_⟩
  rw [List.getElem?_take] at hj
  split at hj
  · exact hj
  · cases hj
theorem may_no {l : List S39} {k : Nat} (hk : k < l.length) (h : colB l k = false) : mayB l = false := by
  have e : (List.range l.length).all (fun i => colB l i) = false := by
    rw [Bool.eq_false_iff]
    intro h2
    have h3 := List.all_eq_true.1 h2 k (List.mem_range.2 hk)
    rw [h] at h3
    cases h3
  unfold mayB
  rw [e, Bool.false_and]
theorem may_end {l : List S39} (h : ∀ j, j < l.length → colB l j = true) : mayB l = (decide (0 < l.length) && decide (l.length ≤ 6)) := by
  unfold mayB
  rw [show (List.range l.length).all (fun i => colB l i) = true from List.all_eq_true.2 fun j hj => h j (List.mem_range.1 hj), Bool.true_and]
set_option maxHeartbeats 4000000 in
set_option maxRecDepth 100000 in
theorem may_walk (A0 : Option Addr) (c0 : Nat) (l0 : List S39) (w : World) (hr0 : Kd.C k39 w A0 l0.length l0) (hc0 : l0.length ≤ c0) (hsz : ∀ x ∈ l0, x.f0.size ≤ 9223372036854775807) :
    Calls Tryd.prog 11 #[.slice A0 l0.length c0] w fun e w' => e = .returned (.bool (mayB l0)) ∧ Below w.heap.size w w' := by
  have hmax := hr0.2.1
  have HR := hid hr0
  clear hr0
  go_enter Tryd.func11, Tryd.ntmps11
  go_wp2_with fail
  go_loopw [7] (fun i wr => ∃ k : Nat, k ≤ l0.length ∧ i = .int .i64 (k : Int) ∧ Hid (∀ j, j < k → colB l0 j = true) ∧ Below w.heap.size w wr) (fun i _ => l0.length - (intOf i).toNat)
  case atStart => exact ⟨0, Nat.zero_le _, rfl, hid (fun j h => absurd h (Nat.not_lt_zero j)), Below.refl _ _⟩
  case round =>
    obtain ⟨k, hk, rfl, hok, hb⟩ := hrel
    have hbs := hb.size
    by_cases hlt : k < l0.length
    · have p1 : (0 : Int) ≤ (k : Int) := by omega
      have p2 : (k : Int) < (l0.length : Int) := by omega
      have p3 : (k : Int) ≤ (c0 : Int) := by omega
      obtain ⟨ad, e1, hx0, hx1⟩ := at_T39 (Kd.C_below HR.out hb) (k : Int) p1 p2
      subst e1
      have e2 : ((k : Int)).toNat = k := by omega
      rw [e2] at hx0 hx1
      clear e2
      have hxl : rd_T39 l0 (k : Int) = l0[k] := by simp [rd_T39, List.getD, hlt]
      have hn := name_some (rd_T39 l0 (k : Int)).f0 (by rw [hxl]; exact hsz _ (List.getElem_mem hlt))
      have hcb : colB l0 k = (nameB (rd_T39 l0 (k : Int)).f0 && ((decide ((rd_T39 l0 (k : Int)).f1 = 1) || decide ((rd_T39 l0 (k : Int)).f1 = 2)) && !(amongB (l0.take k) (rd_T39 l0 (k : Int)).f0))) := rfl
      obtain ⟨⟨s, kd⟩, hS⟩ := hidden (rd_T39 l0 (k : Int))
      rw [hS.out] at hx0 hx1 hn hcb
      obtain ⟨nb, hnb⟩ := hidden (nameB s)
      obtain ⟨am, ham⟩ := hidden (amongB (l0.take k) s)
      have hcb2 : colB l0 k = (nb && ((decide (kd = 1) || decide (kd = 2)) && !am)) := by rw [hcb, hnb.out, ham.out]
      rw [hnb.out] at hn
      have HN := hid hn
      have HCB := hid hcb2
      clear hn hcb hcb2 hxl
      have hcf : ∀ (W : World), Below wr.heap.size wr W → W.cell? ⟨wr.heap.size, 0, none⟩ = some (.string s) → Calls Tryd.prog 32 #[.slice (some ad) k c0, .func (Fn.func 33) #[] #[.pointer (some ⟨wr.heap.size, 0, none⟩)]] W fun e w' => e = .returned (.bool am) ∧ Below W.heap.size W w' := fun W h1 h2 => by
        have := cf_calls (some ad) c0 (l0.take k) s wr.heap.size W (Kd.C_below (C_take HR.out k hk) (below_then hb hbs h1)) h2
        rw [ham.out, List.length_take, Nat.min_eq_left hk] at this
        exact this
      have HCF := hid hcf
      clear hcf
      cases nb with
      | false =>
        have hm := hid (may_no hlt (by rw [HCB.out]; rfl))
        go_wp2_with (go_at_call 9; refine (cell_Name.calls _ _ _ _ HN.out).mono ?_; rintro e w2 ⟨rfl, nd, rfl⟩)
        go_ret
        exact ⟨by rw [hm.out]; rfl, (hb.alloc hbs _).trans (pw_below_drewN (Below.refl _ _) nd)⟩
      | true =>
        by_cases hkd : kd = 1 ∨ kd = 2
        · cases am with
          | true =>
            have hm := hid (may_no hlt (by rw [HCB.out]; simp))
            rcases hkd with rfl | rfl
            all_goals
              go_wp2_with (first | (go_at_call 9; refine (cell_Name.calls _ _ _ _ HN.out).mono ?_; rintro e w2 ⟨rfl, nd, rfl⟩) | (go_at_call 32; refine (HCF.out _ (pw_below_drewN ((Below.refl _ _).alloc (Nat.le_refl _) _) nd) (by go_simp)).mono ?_; rintro e w3 ⟨rfl, hb3⟩))
              go_ret
              exact ⟨by rw [hm.out]; rfl, below_then (pw_below_drewN (hb.alloc hbs _) nd) (by simp; omega) hb3⟩
          | false =>
            have hok2 : Hid (∀ j, j < k + 1 → colB l0 j = true) := hid fun j hj => by
              rcases Nat.lt_or_ge j k with h | h
              · exact hok.out j h
              · obtain rfl : j = k := by omega
                rw [HCB.out]
                rcases hkd with rfl | rfl <;> rfl
            rcases hkd with rfl | rfl
            all_goals
              go_wp2_with (first | (go_at_call 9; refine (cell_Name.calls _ _ _ _ HN.out).mono ?_; rintro e w2 ⟨rfl, nd, rfl⟩) | (go_at_call 32; refine (HCF.out _ (pw_below_drewN ((Below.refl _ _).alloc (Nat.le_refl _) _) nd) (by go_simp)).mono ?_; rintro e w3 ⟨rfl, hb3⟩))
              go_roundw
              case rel => exact ⟨k + 1, by omega, by go_num, hok2, below_then (pw_below_drewN (hb.alloc hbs _) nd) (by simp; omega) hb3⟩
              case measure => simp [intOf]; omega
        · have h1 : (kd == 1) = false := by simp; omega
          have h2 : (kd == 2) = false := by simp; omega
          have h3 : (kd != 1) = true := by simp; omega
          have h4 : (kd != 2) = true := by simp; omega
          have hm := hid (may_no hlt (by rw [HCB.out, decide_eq_false (show ¬ kd = 1 by omega), decide_eq_false (show ¬ kd = 2 by omega)]; rfl))
          go_wp2_with (go_at_call 9; refine (cell_Name.calls _ _ _ _ HN.out).mono ?_; rintro e w2 ⟨rfl, nd, rfl⟩)
          go_ret
          exact ⟨by rw [hm.out]; rfl, (hb.alloc hbs _).trans (pw_below_drewN (Below.refl _ _) nd)⟩
    · obtain rfl : k = l0.length := by omega
      have hm := hid (may_end hok.out)
      by_cases h6 : l0.length ≤ 6
      · by_cases h0 : 0 < l0.length
        · go_wp2_with fail
          go_ret
          exact ⟨by rw [hm.out, decide_eq_true h6, decide_eq_true h0]; first | rfl | (congr 2; simp; omega), hb⟩
        · go_wp2_with fail
          go_ret
          exact ⟨by rw [hm.out, decide_eq_true h6, decide_eq_false h0]; first | rfl | (congr 2; simp; omega), hb⟩
      · go_wp2_with fail
        go_ret
        exact ⟨by rw [hm.out, decide_eq_false h6]; first | rfl | (congr 2; simp; omega), hb⟩
theorem cell_May.calls (A0 : Option Addr) (c0 : Nat) (l0 : List S39) (r : Bool) (w : World) (hr0 : Kd.C k39 w A0 l0.length l0) (hc0 : l0.length ≤ c0) (h : cell_May.f l0 = some r) :
    Calls Tryd.prog 11 #[.slice A0 l0.length c0] w fun e w' => e = .returned (.bool r) ∧ Below w.heap.size w w' := by
  unfold cell_May.f at h
  by_cases hs : ∀ x ∈ l0, x.f0.size ≤ 9223372036854775807
  · rw [if_pos hs] at h
    obtain rfl := Option.some.inj h
    exact may_walk A0 c0 l0 w hr0 hc0 hs
  · rw [if_neg hs] at h; cases h
end


/-! ### utf_Next: function 60 -/
section
open Go.Proofs.YtpgcepfecmkkaaaDoor hiding below_then below_size hid hidden add_plain
def utf_Next.f (a0 : ByteArray) (a1 : Int) : Option (Int × Int) := some (nextB a0 a1)
set_option maxHeartbeats 4000000 in
set_option maxRecDepth 100000 in
theorem utf_Next.calls (a0 : ByteArray) (a1 : Int) (r1 : Int) (r2 : Int) (w : World) (hT : Tabs w) (h : utf_Next.f a0 a1 = some (r1, r2)) :
    Calls Tryd.prog 60 #[.string a0, .int .i64 a1] w fun e w' => e = .returned (.tuple #[.int .i64 r1, .int .i64 r2]) ∧ Below w.heap.size w w' := by
  have h' := Option.some.inj h
  clear h
  by_cases h0 : a1 < 0
  · have e : nextB a0 a1 = (0, 0) := nextB_neg a0 a1 h0
    rw [e] at h'
    obtain ⟨rfl, rfl⟩ := Prod.mk.inj h'
    clear h' e
    go_enter Tryd.func60, Tryd.ntmps60
    go_wp2_with fail
    go_ret2
    exact ⟨rfl, Below.refl _ _⟩
  · by_cases h1 : a1 < (a0.size : Int)
    · obtain ⟨i, rfl⟩ := Int.eq_ofNat_of_zero_le (Int.not_lt.1 h0)
      have hi : i < a0.size := by omega
      obtain ⟨⟨R, N⟩, hd⟩ : ∃ z, Lib.decodeL ((tb a0).drop i) = z := ⟨_, rfl⟩
      obtain ⟨hr1, hr2, hr3⟩ := decodeL_bound ((tb a0).drop i)
      have hx := go_decode a0 i hi
      have cD := Tryd.utf8_DecodeRuneInString (a0.extract i a0.size) w hT
      have e : nextB a0 (i : Int) = if R = 65533 ∧ N = 1 then (0, 0) else ((R : Int), (N : Int)) := by
        rw [nextB_nat, nxt_decode _ (by intro h; have := congrArg List.length h; rw [List.length_drop, tb_length] at this; simp at this; omega), hd]
        split <;> rfl
      rw [hx] at cD
      rw [hd] at cD hr1 hr2 hr3
      simp only at cD hr1 hr2 hr3
      rw [e] at h'
      clear e hd hx
      have h3 : (i : Int) ≤ (a0.size : Int) := by omega
      by_cases hc : R = 65533 ∧ N = 1
      · rw [if_pos hc] at h'
        obtain ⟨rfl, rfl⟩ := hc
        obtain ⟨rfl, rfl⟩ := Prod.mk.inj h'
        clear h'
        go_enter Tryd.func60, Tryd.ntmps60
        go_wp2_with (go_at_call 62; refine cD.mono ?_; rintro e w1 ⟨rfl, hb⟩)
        go_ret2
        exact ⟨rfl, hb⟩
      · rw [if_neg hc] at h'
        obtain ⟨rfl, rfl⟩ := Prod.mk.inj h'
        clear h'
        by_cases hR : R = 65533
        · have hN : ¬ N = 1 := fun e => hc ⟨hR, e⟩
          subst hR
          have hN2 : decide ((N : Int) = 1) = false := by simp; omega
          have hN3 : ((N : Int) == 1) = false := by simp; omega
          clear hc hN
          go_enter Tryd.func60, Tryd.ntmps60
          go_wp2_with (go_at_call 62; refine cD.mono ?_; rintro e w1 ⟨rfl, hb⟩)
          go_ret2
          exact ⟨rfl, hb⟩
        · have hN3 : ((R : Int) == 65533) = false := by simp; omega
          clear hc hR
          go_enter Tryd.func60, Tryd.ntmps60
          go_wp2_with (go_at_call 62; refine cD.mono ?_; rintro e w1 ⟨rfl, hb⟩)
          go_ret2
          exact ⟨rfl, hb⟩
    · have e : nextB a0 a1 = (0, 0) := by
        obtain ⟨i, rfl⟩ := Int.eq_ofNat_of_zero_le (Int.not_lt.1 h0)
        exact nextB_out a0 i (by omega)
      rw [e] at h'
      obtain ⟨rfl, rfl⟩ := Prod.mk.inj h'
      clear h' e
      go_enter Tryd.func60, Tryd.ntmps60
      go_wp2_with fail
      go_ret2
      exact ⟨rfl, Below.refl _ _⟩
end


/-! ### utf_Fault: function 58 -/
section
open Go.Proofs.YtpgcepfecmkkaaaDoor hiding below_then below_size hid hidden add_plain
def utf_Fault.f (a0 : ByteArray) : Option Int := if a0.size ≤ 9223372036854775807 then some (faultB a0) else none
set_option maxHeartbeats 4000000 in
set_option maxRecDepth 100000 in
theorem utf_Fault.calls (a0 : ByteArray) (r : Int) (w : World) (hT : Tabs w) (h : utf_Fault.f a0 = some r) :
    Calls Tryd.prog 58 #[.string a0] w fun e w' => e = .returned (.int .i64 r) ∧ Below w.heap.size w w' := by
  unfold utf_Fault.f at h
  split at h
  case isFalse => cases h
  rename_i hsz
  have h' := Option.some.inj h
  clear h
  unfold faultB at h'
  have HR := hid h'
  have HT := hid hT
  clear h' hT
  go_enter Tryd.func58, Tryd.ntmps58
  go_wp2_with fail
  refine wp_scope_jumps 0 (fun a' w' => ∃ (k i : Nat) (u4 u5 u6 u7 u8 u9 u10 u11 u12 u13 u14 u15 u16 u17 : Value), a' = { tmps := #[.string a0, undef, .int .i64 0, .int .i64 (i : Int), u4, u5, u6, u7, u8, u9, u10, u11, u12, u13, u14, u15, u16, u17], defers := [] } ∧ Hid ((faultFrom a0 k i : Int) = r) ∧ i ≤ a0.size ∧ a0.size < i + k ∧ Below w.heap.size w w') (fun a' _ => a0.size - (intOf (a'.tmps.getD 3 undef)).toNat) rfl ?_ ?_
  · obtain ⟨⟨c, n⟩, hn⟩ : ∃ z, nextB a0 ((0 : Nat) : Int) = z := ⟨_, rfl⟩
    have hn0 := nextB_nn a0 0
    have hn1 := @nextB_le a0 0
    have hn2 := @nextB_out a0 0
    have hs0 : faultFrom a0 (a0.size + 1) 0 = if 0 < n then faultFrom a0 a0.size n.toNat else 0 := by rw [faultFrom, hn]; simp
    rw [hn] at hn0 hn1 hn2
    simp only at hn0 hn1
    have HN := hid hn
    have HS := hid hs0
    have h1 := hid hn1
    have h2 := hid hn2
    obtain ⟨h5, h6⟩ := hn0
    clear hn hs0 hn1 hn2
    go_wp2_with fail
    go_step3
    by_cases hp : 0 < n
    · have hp2 : n.toNat ≤ a0.size ∧ 0 < n.toNat := by
        refine ⟨?_, by omega⟩
        rcases Nat.lt_or_ge 0 a0.size with h | h
        · rcases h1.out h with e | ⟨_, e⟩ <;> omega
        · have := congrArg Prod.snd (h2.out h)
          simp only at this
          omega
      obtain ⟨m, rfl⟩ := Int.eq_ofNat_of_zero_le h5
      have hp3 : m ≤ a0.size := by have := hp2.1; omega
      have hp4 : 0 < m := by omega
      clear hp2
      go_wp2_with (go_at_call 60; refine (utf_Next.calls a0 0 c (m : Int) _ HT.out (congrArg some HN.out)).mono ?_; rintro e w1 ⟨rfl, hb⟩)
      go_step3
      refine ⟨rfl, a0.size, m, _, _, _, _, _, _, _, _, _, _, _, _, _, _, rfl, hid ?_, hp3, by omega, hb⟩
      rw [← HR.out, HS.out, if_pos hp]
      rfl
    · obtain rfl : n = 0 := by omega
      go_wp2_with (go_at_call 60; refine (utf_Next.calls a0 0 c 0 _ HT.out (congrArg some HN.out)).mono ?_; rintro e w1 ⟨rfl, hb⟩)
      simp only [Exit.jump]
      go_ret
      exact ⟨by rw [← HR.out, HS.out]; rfl, hb⟩
  · rintro a' w' ⟨k, i, u4, u5, u6, u7, u8, u9, u10, u11, u12, u13, u14, u15, u16, u17, rfl, hk, hi, hik, hb⟩
    obtain ⟨k, rfl⟩ : ∃ m, k = m + 1 := ⟨k - 1, by omega⟩
    obtain ⟨⟨c, n⟩, hn⟩ : ∃ z, nextB a0 (i : Int) = z := ⟨_, rfl⟩
    have hn0 := nextB_nn a0 i
    have hn1 := @nextB_le a0 i
    have hn2 := @nextB_out a0 i
    have hs0 : faultFrom a0 (k + 1) i = if 0 < n then faultFrom a0 k (i + n.toNat) else i := by rw [faultFrom, hn]
    rw [hn] at hn0 hn1 hn2
    simp only at hn0 hn1
    have HN := hid hn
    have HS := hid hs0
    have h1 := hid hn1
    have h2 := hid hn2
    obtain ⟨h5, h6⟩ := hn0
    clear hn hs0 hn1 hn2
    have HT2 := hid (Tabs.below HT.out hb)
    by_cases hp : 0 < n
    · have hp2 : i + n.toNat ≤ a0.size ∧ 0 < n.toNat := by
        refine ⟨?_, by omega⟩
        rcases Nat.lt_or_ge i a0.size with h | h
        · rcases h1.out h with e | ⟨_, e⟩ <;> omega
        · have := congrArg Prod.snd (h2.out h)
          simp only at this
          omega
      obtain ⟨m, rfl⟩ := Int.eq_ofNat_of_zero_le h5
      have hp3 : i + m ≤ a0.size := by have := hp2.1; omega
      have hp4 : 0 < m := by omega
      clear hp2
      go_wp2_with (go_at_call 60; refine (utf_Next.calls a0 (i : Int) c (m : Int) _ HT2.out (congrArg some HN.out)).mono ?_; rintro e w1 ⟨rfl, hb1⟩)
      go_step3
      refine ⟨rfl, ⟨k, i + m, _, _, _, _, _, _, _, _, _, _, _, _, _, _, rfl, hid ?_, hp3, by omega, below_then hb hb.size hb1⟩, ?_⟩
      · rw [← hk.out, HS.out, if_pos hp]
        rfl
      · simp [intOf]
        omega
    · obtain rfl : n = 0 := by omega
      go_wp2_with (go_at_call 60; refine (utf_Next.calls a0 (i : Int) c 0 _ HT2.out (congrArg some HN.out)).mono ?_; rintro e w1 ⟨rfl, hb1⟩)
      simp only [Exit.jump]
      go_ret
      exact ⟨by rw [← hk.out, HS.out]; rfl, below_then hb hb.size hb1⟩
end


/-! ### utf_May: function 50 -/
def utf_May.f (a0 : ByteArray) : Option (Bool) := (utf_Fault.f a0).bind fun t102 => (some (t102 == (a0.size : Int)))
set_option maxHeartbeats 8000000 in
set_option maxRecDepth 100000 in
theorem utf_May.calls (a0 : ByteArray) (r : Bool) (w : World) (hT : Tabs w) (h : utf_May.f a0 = some r) :
    Calls Tryd.prog 50 #[.string a0] w fun e w' => e = .returned (.bool r) ∧ Below w.heap.size w w' := by
  have HLT := Aside0.mk hT
  clear hT
  have HB := Aside0.mk (Below.refl w.heap.size w)
  have H : ((utf_Fault.f a0).bind fun t102 => (some (t102 == (a0.size : Int)))) = some r := h
  clear h
  replace H := Option.bind_eq_some_iff.mp H
  obtain ⟨t102, A20, H⟩ := H
  replace H : (some (t102 == (a0.size : Int))) = some r := H
  have A2 := Aside0.mk A20
  clear A20
  obtain rfl := Option.some.inj H
  go_enter Tryd.func50, Tryd.ntmps50
  go_wp2_with (first | ((with_reducible refine gate_callee (f := 58) rfl ?_); refine goesL_ (some 4) rfl rfl Tryd.func58 (by kernel_rfl) rfl #[.string a0] rfl (by (try simp only [List.map_toArray, List.map_cons, List.map_nil]); first | done | rfl | (simp only [List.length_drop, List.length_take]; rfl)) ?_; (with_reducible refine (utf_Fault.calls a0 t102 _ ?side1 A2.out).mono ?_); (case side1 => repeat (first | exact HLT.out | (with_reducible refine Tabs.alloc ?_ _) | (with_reducible refine Tabs.drewN ?_ _) | (with_reducible refine Tabs.drew ?_))); rintro e w3 ⟨rfl, hb⟩; refine ⟨_, rfl, ?_⟩; have n0_ := Aside0.mk (below_step (by repeat (first | (with_reducible first | exact HB.out | apply below_alloc | apply pw_below_drewN | apply below_drew1) | exact HB.out)) hb); clear HB; have HB := n0_; clear n0_; (try clear hb); (try clear hb2); (try clear hk); (try clear hi)))
  go_ret
  exact ⟨by first | rfl | (simp [errW_none, errW_some] <;> rfl) | (simp [*, errW_none, errW_some] <;> rfl), by repeat (first | (with_reducible first | exact HB.out | apply below_alloc | apply pw_below_drewN | apply below_drew1) | exact HB.out)⟩

/-! ### cell_wrong: function 34 -/
def cell_wrong.f (a0_0 : Int) (a0_1 : Int) (a0_2 : ByteArray) : Option (Int) := if a0_0 = 2 then (if a0_1 = 0 then (if (a0_2.size : Int) > 256 then (some 3) else ((utf_May.f a0_2).bind fun t104 => (if t104 = true then (some 0) else (some 8)))) else (some 1)) else (if a0_0 = 1 then (if a0_2.toList = ([] : List UInt8) then (some 0) else (some 1)) else (some 6))
set_option maxHeartbeats 8000000 in
set_option maxRecDepth 100000 in
theorem cell_wrong.calls (a0_0 : Int) (a0_1 : Int) (a0_2 : ByteArray) (r : Int) (w : World) (hT : Tabs w) (h : cell_wrong.f a0_0 a0_1 a0_2 = some r) :
    Calls Tryd.prog 34 #[.agg #[.int .i64 a0_0, .int .i64 a0_1, .string a0_2]] w fun e w' => e = .returned (.int .i64 r) ∧ Below w.heap.size w w' := by
  have hu56 := Tryd.underlying56
  have HLT := Aside0.mk hT
  clear hT
  have HB := Aside0.mk (Below.refl w.heap.size w)
  have H : (if a0_0 = 2 then (if a0_1 = 0 then (if (a0_2.size : Int) > 256 then (some 3) else ((utf_May.f a0_2).bind fun t104 => (if t104 = true then (some 0) else (some 8)))) else (some 1)) else (if a0_0 = 1 then (if a0_2.toList = ([] : List UInt8) then (some 0) else (some 1)) else (some 6))) = some r := h
  clear h
  by_cases c2 : a0_0 = 2
  · rw [if_pos c2] at H
    have c2b0 : (a0_0 == 2) = true := beq_iff_eq.mpr c2
    have c2b1 : (a0_0 != 2) = false := bne_eq_false_iff_eq.mpr c2
    clear c2
    by_cases c3 : a0_1 = 0
    · rw [if_pos c3] at H
      have c3b0 : (a0_1 == 0) = true := beq_iff_eq.mpr c3
      have c3b1 : (a0_1 != 0) = false := bne_eq_false_iff_eq.mpr c3
      clear c3
      by_cases c4 : (a0_2.size : Int) > 256
      · rw [if_pos c4] at H
        have c4b0 : decide (256 < (a0_2.size : Int)) = true := decide_eq_true c4
        have c4b1 : decide (256 < a0_2.size) = true := decide_eq_true (by omega)
        clear c4
        obtain rfl := Option.some.inj H
        go_enter Tryd.func34, Tryd.ntmps34
        go_wp2_with (first | ((with_reducible refine gate_dst (N := 1) rfl ?_); refine box_event ?hg (N := 1) ?hd (cs := #[.int .i64 a0_0, .int .i64 a0_1, .string a0_2]) (t := 56) ?hr ?_; (case hd => rfl); (case hg => rfl); (case hr => first | (go_simp; done) | (go_simp; rfl)); intro gb103 hg w5 hbox hb; have n0_ := Aside0.mk (below_step (by repeat (first | (with_reducible first | exact HB.out | apply below_alloc | apply pw_below_drewN | apply below_drew1) | exact HB.out)) hb); have n1_ := Aside0.mk (hbox); have n2_ := Aside0.mk ((by rw [hg]; exact (below_size (by repeat (first | (with_reducible first | exact HB.out | apply below_alloc | apply pw_below_drewN | apply below_drew1) | exact HB.out))) : w.heap.size ≤ gb103)); have n3_ := Aside0.mk ((by rw [hg]; exact (below_size (by repeat (first | (with_reducible first | exact HB.out | apply below_alloc | apply pw_below_drewN | apply below_drew1) | exact HB.out))) : w.heap.size ≤ gb103)); clear HB; have HB := n0_; have BK103 := n1_; have GW103 := n2_; have GE103 := n3_; clear n0_ n1_ n2_ n3_; clear hb hbox hg; have hcz6_0 : w5.cell? ⟨gb103, 0, none⟩ = some (.int .i64 a0_0) := (blk_cell BK103.out 0).trans rfl; have hcz6_1 : w5.cell? ⟨gb103, 1, none⟩ = some (.int .i64 a0_1) := (blk_cell BK103.out 1).trans rfl; have hcz6_2 : w5.cell? ⟨gb103, 2, none⟩ = some (.string a0_2) := (blk_cell BK103.out 2).trans rfl; have hfz6_0 := blk_frozen BK103.out 0; have hfz6_1 := blk_frozen BK103.out 1; have hfz6_2 := blk_frozen BK103.out 2))
        go_ret
        exact ⟨by first | rfl | (simp [errW_none, errW_some] <;> rfl) | (simp [*, errW_none, errW_some] <;> rfl), by repeat (first | (with_reducible first | exact HB.out | apply below_alloc | apply pw_below_drewN | apply below_drew1 | refine below_set ?_ GE103.out) | exact HB.out)⟩
      · rw [if_neg c4] at H
        have c4b0 : decide (256 < (a0_2.size : Int)) = false := decide_eq_false c4
        have c4b1 : decide (256 < a0_2.size) = false := decide_eq_false (by omega)
        clear c4
        replace H := Option.bind_eq_some_iff.mp H
        obtain ⟨t104, A70, H⟩ := H
        replace H : (if t104 = true then (some 0) else (some 8)) = some r := H
        have A7 := Aside0.mk A70
        clear A70
        by_cases c8 : t104 = true
        · subst c8
          have H1 : (some 0) = some r := by rw [if_pos rfl] at H; exact H
          clear H
          have H := H1
          clear H1
          obtain rfl := Option.some.inj H
          go_enter Tryd.func34, Tryd.ntmps34
          go_wp2_with (first | ((with_reducible refine gate_dst (N := 1) rfl ?_); refine box_event ?hg (N := 1) ?hd (cs := #[.int .i64 a0_0, .int .i64 a0_1, .string a0_2]) (t := 56) ?hr ?_; (case hd => rfl); (case hg => rfl); (case hr => first | (go_simp; done) | (go_simp; rfl)); intro gb103 hg w9 hbox hb; have n0_ := Aside0.mk (below_step (by repeat (first | (with_reducible first | exact HB.out | apply below_alloc | apply pw_below_drewN | apply below_drew1) | exact HB.out)) hb); have n1_ := Aside0.mk (hbox); have n2_ := Aside0.mk ((by rw [hg]; exact (below_size (by repeat (first | (with_reducible first | exact HB.out | apply below_alloc | apply pw_below_drewN | apply below_drew1) | exact HB.out))) : w.heap.size ≤ gb103)); have n3_ := Aside0.mk ((by rw [hg]; exact (below_size (by repeat (first | (with_reducible first | exact HB.out | apply below_alloc | apply pw_below_drewN | apply below_drew1) | exact HB.out))) : w.heap.size ≤ gb103)); clear HB; have HB := n0_; have BK103 := n1_; have GW103 := n2_; have GE103 := n3_; clear n0_ n1_ n2_ n3_; clear hb hbox hg; have hcz10_0 : w9.cell? ⟨gb103, 0, none⟩ = some (.int .i64 a0_0) := (blk_cell BK103.out 0).trans rfl; have hcz10_1 : w9.cell? ⟨gb103, 1, none⟩ = some (.int .i64 a0_1) := (blk_cell BK103.out 1).trans rfl; have hcz10_2 : w9.cell? ⟨gb103, 2, none⟩ = some (.string a0_2) := (blk_cell BK103.out 2).trans rfl; have hfz10_0 := blk_frozen BK103.out 0; have hfz10_1 := blk_frozen BK103.out 1; have hfz10_2 := blk_frozen BK103.out 2) | ((with_reducible refine gate_callee (f := 50) rfl ?_); refine goesL_ (some 22) rfl rfl Tryd.func50 (by kernel_rfl) rfl #[.string a0_2] rfl (by (try simp only [List.map_toArray, List.map_cons, List.map_nil]); first | done | rfl | (simp only [List.length_drop, List.length_take]; rfl)) ?_; (with_reducible refine (utf_May.calls a0_2 true _ ?side1 A7.out).mono ?_); (case side1 => repeat (first | exact (Tabs.below HLT.out HB.out) | (with_reducible refine Tabs.alloc ?_ _) | (with_reducible refine Tabs.drewN ?_ _) | (with_reducible refine Tabs.drew ?_))); rintro e w11 ⟨rfl, hb⟩; refine ⟨_, rfl, ?_⟩; have n0_ := Aside0.mk (blk_below (g := gb103) (o := .cells #[.int .i64 a0_0, .int .i64 a0_1, .string a0_2] 56 (0, 0)) (by (with_reducible repeat (first | refine blk_drewN ?_ _ | refine blk_drew ?_ | refine blk_alloc ?_ _)); exact BK103.out) hb); have n1_ := Aside0.mk (below_step (by repeat (first | (with_reducible first | exact HB.out | apply below_alloc | apply pw_below_drewN | apply below_drew1 | refine below_set ?_ GE103.out) | exact HB.out)) hb); clear BK103; clear HB; have BK103 := n0_; have HB := n1_; clear n0_ n1_; (try clear hb); (try clear hb2); (try clear hk); (try clear hi); have hcz12_0 : w11.cell? ⟨gb103, 0, none⟩ = some (.int .i64 a0_0) := (blk_cell BK103.out 0).trans rfl; have hcz12_1 : w11.cell? ⟨gb103, 1, none⟩ = some (.int .i64 a0_1) := (blk_cell BK103.out 1).trans rfl; have hcz12_2 : w11.cell? ⟨gb103, 2, none⟩ = some (.string a0_2) := (blk_cell BK103.out 2).trans rfl; have hfz12_0 := blk_frozen BK103.out 0; have hfz12_1 := blk_frozen BK103.out 1; have hfz12_2 := blk_frozen BK103.out 2))
          go_ret
          exact ⟨by first | rfl | (simp [errW_none, errW_some] <;> rfl) | (simp [*, errW_none, errW_some] <;> rfl), by repeat (first | (with_reducible first | exact HB.out | apply below_alloc | apply pw_below_drewN | apply below_drew1 | refine below_set ?_ GE103.out) | exact HB.out)⟩
        · replace c8 := Bool.eq_false_iff.mpr c8
          subst c8
          have H1 : (some 8) = some r := by rw [if_neg (show ¬ (false = true) by decide)] at H; exact H
          clear H
          have H := H1
          clear H1
          obtain rfl := Option.some.inj H
          go_enter Tryd.func34, Tryd.ntmps34
          go_wp2_with (first | ((with_reducible refine gate_dst (N := 1) rfl ?_); refine box_event ?hg (N := 1) ?hd (cs := #[.int .i64 a0_0, .int .i64 a0_1, .string a0_2]) (t := 56) ?hr ?_; (case hd => rfl); (case hg => rfl); (case hr => first | (go_simp; done) | (go_simp; rfl)); intro gb103 hg w13 hbox hb; have n0_ := Aside0.mk (below_step (by repeat (first | (with_reducible first | exact HB.out | apply below_alloc | apply pw_below_drewN | apply below_drew1) | exact HB.out)) hb); have n1_ := Aside0.mk (hbox); have n2_ := Aside0.mk ((by rw [hg]; exact (below_size (by repeat (first | (with_reducible first | exact HB.out | apply below_alloc | apply pw_below_drewN | apply below_drew1) | exact HB.out))) : w.heap.size ≤ gb103)); have n3_ := Aside0.mk ((by rw [hg]; exact (below_size (by repeat (first | (with_reducible first | exact HB.out | apply below_alloc | apply pw_below_drewN | apply below_drew1) | exact HB.out))) : w.heap.size ≤ gb103)); clear HB; have HB := n0_; have BK103 := n1_; have GW103 := n2_; have GE103 := n3_; clear n0_ n1_ n2_ n3_; clear hb hbox hg; have hcz14_0 : w13.cell? ⟨gb103, 0, none⟩ = some (.int .i64 a0_0) := (blk_cell BK103.out 0).trans rfl; have hcz14_1 : w13.cell? ⟨gb103, 1, none⟩ = some (.int .i64 a0_1) := (blk_cell BK103.out 1).trans rfl; have hcz14_2 : w13.cell? ⟨gb103, 2, none⟩ = some (.string a0_2) := (blk_cell BK103.out 2).trans rfl; have hfz14_0 := blk_frozen BK103.out 0; have hfz14_1 := blk_frozen BK103.out 1; have hfz14_2 := blk_frozen BK103.out 2) | ((with_reducible refine gate_callee (f := 50) rfl ?_); refine goesL_ (some 22) rfl rfl Tryd.func50 (by kernel_rfl) rfl #[.string a0_2] rfl (by (try simp only [List.map_toArray, List.map_cons, List.map_nil]); first | done | rfl | (simp only [List.length_drop, List.length_take]; rfl)) ?_; (with_reducible refine (utf_May.calls a0_2 false _ ?side1 A7.out).mono ?_); (case side1 => repeat (first | exact (Tabs.below HLT.out HB.out) | (with_reducible refine Tabs.alloc ?_ _) | (with_reducible refine Tabs.drewN ?_ _) | (with_reducible refine Tabs.drew ?_))); rintro e w15 ⟨rfl, hb⟩; refine ⟨_, rfl, ?_⟩; have n0_ := Aside0.mk (blk_below (g := gb103) (o := .cells #[.int .i64 a0_0, .int .i64 a0_1, .string a0_2] 56 (0, 0)) (by (with_reducible repeat (first | refine blk_drewN ?_ _ | refine blk_drew ?_ | refine blk_alloc ?_ _)); exact BK103.out) hb); have n1_ := Aside0.mk (below_step (by repeat (first | (with_reducible first | exact HB.out | apply below_alloc | apply pw_below_drewN | apply below_drew1 | refine below_set ?_ GE103.out) | exact HB.out)) hb); clear BK103; clear HB; have BK103 := n0_; have HB := n1_; clear n0_ n1_; (try clear hb); (try clear hb2); (try clear hk); (try clear hi)))
          go_ret
          exact ⟨by first | rfl | (simp [errW_none, errW_some] <;> rfl) | (simp [*, errW_none, errW_some] <;> rfl), by repeat (first | (with_reducible first | exact HB.out | apply below_alloc | apply pw_below_drewN | apply below_drew1 | refine below_set ?_ GE103.out) | exact HB.out)⟩
    · rw [if_neg c3] at H
      have c3b0 : (a0_1 == 0) = false := beq_eq_false_iff_ne.mpr c3
      have c3b1 : (a0_1 != 0) = true := bne_iff_ne.mpr c3
      obtain rfl := Option.some.inj H
      go_enter Tryd.func34, Tryd.ntmps34
      go_wp2_with (first | ((with_reducible refine gate_dst (N := 1) rfl ?_); refine box_event ?hg (N := 1) ?hd (cs := #[.int .i64 a0_0, .int .i64 a0_1, .string a0_2]) (t := 56) ?hr ?_; (case hd => rfl); (case hg => rfl); (case hr => first | (go_simp; done) | (go_simp; rfl)); intro gb103 hg w16 hbox hb; have n0_ := Aside0.mk (below_step (by repeat (first | (with_reducible first | exact HB.out | apply below_alloc | apply pw_below_drewN | apply below_drew1) | exact HB.out)) hb); have n1_ := Aside0.mk (hbox); have n2_ := Aside0.mk ((by rw [hg]; exact (below_size (by repeat (first | (with_reducible first | exact HB.out | apply below_alloc | apply pw_below_drewN | apply below_drew1) | exact HB.out))) : w.heap.size ≤ gb103)); have n3_ := Aside0.mk ((by rw [hg]; exact (below_size (by repeat (first | (with_reducible first | exact HB.out | apply below_alloc | apply pw_below_drewN | apply below_drew1) | exact HB.out))) : w.heap.size ≤ gb103)); clear HB; have HB := n0_; have BK103 := n1_; have GW103 := n2_; have GE103 := n3_; clear n0_ n1_ n2_ n3_; clear hb hbox hg; have hcz17_0 : w16.cell? ⟨gb103, 0, none⟩ = some (.int .i64 a0_0) := (blk_cell BK103.out 0).trans rfl; have hcz17_1 : w16.cell? ⟨gb103, 1, none⟩ = some (.int .i64 a0_1) := (blk_cell BK103.out 1).trans rfl; have hcz17_2 : w16.cell? ⟨gb103, 2, none⟩ = some (.string a0_2) := (blk_cell BK103.out 2).trans rfl; have hfz17_0 := blk_frozen BK103.out 0; have hfz17_1 := blk_frozen BK103.out 1; have hfz17_2 := blk_frozen BK103.out 2))
      go_ret
      exact ⟨by first | rfl | (simp [errW_none, errW_some] <;> rfl) | (simp [*, errW_none, errW_some] <;> rfl), by repeat (first | (with_reducible first | exact HB.out | apply below_alloc | apply pw_below_drewN | apply below_drew1 | refine below_set ?_ GE103.out) | exact HB.out)⟩
  · rw [if_neg c2] at H
    have c2b0 : (a0_0 == 2) = false := beq_eq_false_iff_ne.mpr c2
    have c2b1 : (a0_0 != 2) = true := bne_iff_ne.mpr c2
    by_cases c18 : a0_0 = 1
    · rw [if_pos c18] at H
      have c18b0 : (a0_0 == 1) = true := beq_iff_eq.mpr c18
      have c18b1 : (a0_0 != 1) = false := bne_eq_false_iff_eq.mpr c18
      clear c18
      by_cases c19 : a0_2.toList = ([] : List UInt8)
      · rw [if_pos c19] at H
        have c19b0 : (a0_2.toList == ([] : List UInt8)) = true := beq_iff_eq.mpr c19
        have c19b1 : (a0_2.toList != ([] : List UInt8)) = false := bne_eq_false_iff_eq.mpr c19
        clear c19
        obtain rfl := Option.some.inj H
        go_enter Tryd.func34, Tryd.ntmps34
        go_wp2_with (first | ((with_reducible refine gate_dst (N := 1) rfl ?_); refine box_event ?hg (N := 1) ?hd (cs := #[.int .i64 a0_0, .int .i64 a0_1, .string a0_2]) (t := 56) ?hr ?_; (case hd => rfl); (case hg => rfl); (case hr => first | (go_simp; done) | (go_simp; rfl)); intro gb103 hg w20 hbox hb; have n0_ := Aside0.mk (below_step (by repeat (first | (with_reducible first | exact HB.out | apply below_alloc | apply pw_below_drewN | apply below_drew1) | exact HB.out)) hb); have n1_ := Aside0.mk (hbox); have n2_ := Aside0.mk ((by rw [hg]; exact (below_size (by repeat (first | (with_reducible first | exact HB.out | apply below_alloc | apply pw_below_drewN | apply below_drew1) | exact HB.out))) : w.heap.size ≤ gb103)); have n3_ := Aside0.mk ((by rw [hg]; exact (below_size (by repeat (first | (with_reducible first | exact HB.out | apply below_alloc | apply pw_below_drewN | apply below_drew1) | exact HB.out))) : w.heap.size ≤ gb103)); clear HB; have HB := n0_; have BK103 := n1_; have GW103 := n2_; have GE103 := n3_; clear n0_ n1_ n2_ n3_; clear hb hbox hg; have hcz21_0 : w20.cell? ⟨gb103, 0, none⟩ = some (.int .i64 a0_0) := (blk_cell BK103.out 0).trans rfl; have hcz21_1 : w20.cell? ⟨gb103, 1, none⟩ = some (.int .i64 a0_1) := (blk_cell BK103.out 1).trans rfl; have hcz21_2 : w20.cell? ⟨gb103, 2, none⟩ = some (.string a0_2) := (blk_cell BK103.out 2).trans rfl; have hfz21_0 := blk_frozen BK103.out 0; have hfz21_1 := blk_frozen BK103.out 1; have hfz21_2 := blk_frozen BK103.out 2))
        go_ret
        exact ⟨by first | rfl | (simp [errW_none, errW_some] <;> rfl) | (simp [*, errW_none, errW_some] <;> rfl), by repeat (first | (with_reducible first | exact HB.out | apply below_alloc | apply pw_below_drewN | apply below_drew1 | refine below_set ?_ GE103.out) | exact HB.out)⟩
      · rw [if_neg c19] at H
        have c19b0 : (a0_2.toList == ([] : List UInt8)) = false := beq_eq_false_iff_ne.mpr c19
        have c19b1 : (a0_2.toList != ([] : List UInt8)) = true := bne_iff_ne.mpr c19
        obtain rfl := Option.some.inj H
        go_enter Tryd.func34, Tryd.ntmps34
        go_wp2_with (first | ((with_reducible refine gate_dst (N := 1) rfl ?_); refine box_event ?hg (N := 1) ?hd (cs := #[.int .i64 a0_0, .int .i64 a0_1, .string a0_2]) (t := 56) ?hr ?_; (case hd => rfl); (case hg => rfl); (case hr => first | (go_simp; done) | (go_simp; rfl)); intro gb103 hg w22 hbox hb; have n0_ := Aside0.mk (below_step (by repeat (first | (with_reducible first | exact HB.out | apply below_alloc | apply pw_below_drewN | apply below_drew1) | exact HB.out)) hb); have n1_ := Aside0.mk (hbox); have n2_ := Aside0.mk ((by rw [hg]; exact (below_size (by repeat (first | (with_reducible first | exact HB.out | apply below_alloc | apply pw_below_drewN | apply below_drew1) | exact HB.out))) : w.heap.size ≤ gb103)); have n3_ := Aside0.mk ((by rw [hg]; exact (below_size (by repeat (first | (with_reducible first | exact HB.out | apply below_alloc | apply pw_below_drewN | apply below_drew1) | exact HB.out))) : w.heap.size ≤ gb103)); clear HB; have HB := n0_; have BK103 := n1_; have GW103 := n2_; have GE103 := n3_; clear n0_ n1_ n2_ n3_; clear hb hbox hg; have hcz23_0 : w22.cell? ⟨gb103, 0, none⟩ = some (.int .i64 a0_0) := (blk_cell BK103.out 0).trans rfl; have hcz23_1 : w22.cell? ⟨gb103, 1, none⟩ = some (.int .i64 a0_1) := (blk_cell BK103.out 1).trans rfl; have hcz23_2 : w22.cell? ⟨gb103, 2, none⟩ = some (.string a0_2) := (blk_cell BK103.out 2).trans rfl; have hfz23_0 := blk_frozen BK103.out 0; have hfz23_1 := blk_frozen BK103.out 1; have hfz23_2 := blk_frozen BK103.out 2))
        go_ret
        exact ⟨by first | rfl | (simp [errW_none, errW_some] <;> rfl) | (simp [*, errW_none, errW_some] <;> rfl), by repeat (first | (with_reducible first | exact HB.out | apply below_alloc | apply pw_below_drewN | apply below_drew1 | refine below_set ?_ GE103.out) | exact HB.out)⟩
    · rw [if_neg c18] at H
      have c18b0 : (a0_0 == 1) = false := beq_eq_false_iff_ne.mpr c18
      have c18b1 : (a0_0 != 1) = true := bne_iff_ne.mpr c18
      obtain rfl := Option.some.inj H
      go_enter Tryd.func34, Tryd.ntmps34
      go_wp2_with (first | ((with_reducible refine gate_dst (N := 1) rfl ?_); refine box_event ?hg (N := 1) ?hd (cs := #[.int .i64 a0_0, .int .i64 a0_1, .string a0_2]) (t := 56) ?hr ?_; (case hd => rfl); (case hg => rfl); (case hr => first | (go_simp; done) | (go_simp; rfl)); intro gb103 hg w24 hbox hb; have n0_ := Aside0.mk (below_step (by repeat (first | (with_reducible first | exact HB.out | apply below_alloc | apply pw_below_drewN | apply below_drew1) | exact HB.out)) hb); have n1_ := Aside0.mk (hbox); have n2_ := Aside0.mk ((by rw [hg]; exact (below_size (by repeat (first | (with_reducible first | exact HB.out | apply below_alloc | apply pw_below_drewN | apply below_drew1) | exact HB.out))) : w.heap.size ≤ gb103)); have n3_ := Aside0.mk ((by rw [hg]; exact (below_size (by repeat (first | (with_reducible first | exact HB.out | apply below_alloc | apply pw_below_drewN | apply below_drew1) | exact HB.out))) : w.heap.size ≤ gb103)); clear HB; have HB := n0_; have BK103 := n1_; have GW103 := n2_; have GE103 := n3_; clear n0_ n1_ n2_ n3_; clear hb hbox hg; have hcz25_0 : w24.cell? ⟨gb103, 0, none⟩ = some (.int .i64 a0_0) := (blk_cell BK103.out 0).trans rfl; have hcz25_1 : w24.cell? ⟨gb103, 1, none⟩ = some (.int .i64 a0_1) := (blk_cell BK103.out 1).trans rfl; have hcz25_2 : w24.cell? ⟨gb103, 2, none⟩ = some (.string a0_2) := (blk_cell BK103.out 2).trans rfl; have hfz25_0 := blk_frozen BK103.out 0; have hfz25_1 := blk_frozen BK103.out 1; have hfz25_2 := blk_frozen BK103.out 2))
      go_ret
      exact ⟨by first | rfl | (simp [errW_none, errW_some] <;> rfl) | (simp [*, errW_none, errW_some] <;> rfl), by repeat (first | (with_reducible first | exact HB.out | apply below_alloc | apply pw_below_drewN | apply below_drew1 | refine below_set ?_ GE103.out) | exact HB.out)⟩

end Go.Proofs.YtpgcepfecmkkaaaDoorZ.ZA
