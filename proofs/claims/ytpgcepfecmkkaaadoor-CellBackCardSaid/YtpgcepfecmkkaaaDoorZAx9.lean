-- Laid by a program of this session (a turned copy of the print).
import Derived.Test.YtpgcepfecmkkaaaDoorZAx0
import Derived.Test.YtpgcepfecmkkaaaDoorZAx2
import Derived.Test.YtpgcepfecmkkaaaDoorZAx4
import Derived.Test.YtpgcepfecmkkaaaDoorZAx6
import Derived.Test.YtpgcepfecmkkaaaDoorZAx7
import Derived.Test.YtpgcepfecmkkaaaDoorZAx8
namespace Go.Proofs.YtpgcepfecmkkaaaDoorZ.ZA
open Go.RowKit Go.Proofs.YtpgcepfecmkkaaaDoorW.PrintWords Go.Proofs.YtpgcepfecmkkaaaDoorW.PrintLast Go.Proofs.YtpgcepfecmkkaaaDoorW.PrintMore
attribute [local go_sem] max2_int min2_int max_two min_two max_three min_three max_four min_four   -- for this text's walks alone
set_option linter.unusedVariables false
set_option linter.unusedSimpArgs false

attribute [local go_sem high] eqA56
/-! ### incipitref11_Same: function 17 -/
def incipitref11_Same.l0 : Nat → List (S56) → List (S56) → Int → Option (Bool)
  | 0, _, _, _ => none
  | k + 1, x0, x1, x5 => if x5 < (x0.length : Int) then (if 0 ≤ x5 then (if x5 < (x1.length : Int) then (if (!(((rd_T56 x0 x5).f0) == ((rd_T56 x1 x5).f0)) || (!(((rd_T56 x0 x5).f1) == ((rd_T56 x1 x5).f1)) || (!((((rd_T56 x0 x5).f2).toList) == (((rd_T56 x1 x5).f2).toList))))) = true then (some false) else (incipitref11_Same.l0 k x0 x1 (wrap64 (x5 + 1)))) else (none)) else (none)) else (some true)
def incipitref11_Same.f (k : Nat) (l0 : List (S56)) (l1 : List (S56)) : Option (Bool) := if (l0.length : Int) = (l1.length : Int) then (incipitref11_Same.l0 k l0 l1 0) else (some false)
theorem incipitref11_Same.mono_l : ∀ k, (∀ y0 y1 y2, LeO (incipitref11_Same.l0 k y0 y1 y2) (incipitref11_Same.l0 (k + 1) y0 y1 y2))
  | 0 => fun _ _ _ r h => by simp [incipitref11_Same.l0] at h
  | k + 1 => by
    have ih0 := incipitref11_Same.mono_l k
    · intro y0 y1 y2
      unfold incipitref11_Same.l0
      repeat' first
      | (with_reducible exact ih0 _ _ _)
      | (with_reducible exact LeO.refl _)
      | (with_reducible exact LeO.none _)
      | (with_reducible refine LeO.ite ?_ ?_)
      | (with_reducible refine LeO.bind ?_ (fun _ => ?_))
      | exact ih0 _ _ _
      | exact LeO.none _
      | refine LeO.ite ?_ ?_
      | refine LeO.bind ?_ (fun _ => ?_)
theorem incipitref11_Same.mono : ∀ a0 a1 k, LeO (incipitref11_Same.f k a0 a1) (incipitref11_Same.f (k + 1) a0 a1) := by
  intro a0 a1 k
  have ih0 := incipitref11_Same.mono_l k
  unfold incipitref11_Same.f
  repeat' first
      | (with_reducible exact ih0 _ _ _)
      | (with_reducible exact LeO.refl _)
      | (with_reducible exact LeO.none _)
      | (with_reducible refine LeO.ite ?_ ?_)
      | (with_reducible refine LeO.bind ?_ (fun _ => ?_))
      | exact ih0 _ _ _
      | exact LeO.none _
      | refine LeO.ite ?_ ?_
      | refine LeO.bind ?_ (fun _ => ?_)
set_option maxHeartbeats 8000000 in
set_option maxRecDepth 100000 in
theorem incipitref11_Same.calls (k : Nat) (A0 : Option Addr) (c0 : Nat) (l0 : List (S56)) (A1 : Option Addr) (c1 : Nat) (l1 : List (S56)) (r : Bool) (w : World) (hr0 : Kd.C k56 w A0 l0.length l0) (hc0 : l0.length ≤ c0) (hr1 : Kd.C k56 w A1 l1.length l1) (hc1 : l1.length ≤ c1) (h : incipitref11_Same.f k l0 l1 = some r) :
    Calls Tryd.prog 17 #[.slice A0 l0.length c0, .slice A1 l1.length c1] w fun e w' => e = .returned (.bool r) ∧ Drawn0 w w' := by
  have hu56 := Tryd.underlying56
  have HR0 := Aside0.mk hr0
  have HC0 := Aside0.mk hc0
  clear hr0 hc0
  have HR1 := Aside0.mk hr1
  have HC1 := Aside0.mk hc1
  clear hr1 hc1
  have H : (if (l0.length : Int) = (l1.length : Int) then (incipitref11_Same.l0 k l0 l1 0) else (some false)) = some r := h
  clear h
  by_cases c3 : (l0.length : Int) = (l1.length : Int)
  · rw [if_pos c3] at H
    have c3b0 : ((l0.length : Int) == (l1.length : Int)) = true := beq_iff_eq.mpr c3
    have c3b1 : ((l0.length : Int) != (l1.length : Int)) = false := bne_eq_false_iff_eq.mpr c3
    have c3b2 : (l0.length == l1.length) = true := by first | simpa using c3 | (simp at c3 ⊢; omega)
    clear c3
    have H' := Aside0.mk H
    clear H
    go_enter Tryd.func17, Tryd.ntmps17
    go_wp2
    repeat (go_quiet (fail); try go_wp2)
    go_loopg [5] k (fun kq v5 w' => ∃ (x5_1 : Int), v5 = .int .i64 x5_1 ∧ Aside0 (incipitref11_Same.l0 kq l0 l1 x5_1 = some r) ∧ Aside0 (kq ≤ k) ∧ Drawn0 w w')
    case atStart => exact ⟨(0), (by first | rfl | (simp; done) | (simp [*]; done)), H', ⟨Nat.le_refl _⟩, by repeat (first | exact Drawn0.refl _ | apply Drawn0.step)⟩
    case round =>
      clear H'
      try clear c1
      try clear p2
      try clear c3
      try clear c3b0
      try clear c3b1
      try clear c3b2
      obtain ⟨x5_1, rfl, HA, HK1, ⟨m1, rfl⟩⟩ := hrel
      cases gk with
      | zero => exact absurd HA.out (by simp [incipitref11_Same.l0])
      | succ k1 =>
        have H := HA.out
        clear HA
        simp only [incipitref11_Same.l0] at H
        by_cases c4 : x5_1 < (l0.length : Int)
        · rw [if_pos c4] at H
          have c4b0 : decide (x5_1 < (l0.length : Int)) = true := decide_eq_true c4
          clear c4
          by_cases c5 : 0 ≤ x5_1
          · rw [if_pos c5] at H
            have c5b0 : decide (0 ≤ x5_1) = true := decide_eq_true c5
            clear c5
            by_cases c6 : x5_1 < (l1.length : Int)
            · rw [if_pos c6] at H
              have c6b0 : decide (x5_1 < (l1.length : Int)) = true := decide_eq_true c6
              clear c6
              by_cases c7 : (!(((rd_T56 l0 x5_1).f0) == ((rd_T56 l1 x5_1).f0)) || (!(((rd_T56 l0 x5_1).f1) == ((rd_T56 l1 x5_1).f1)) || (!((((rd_T56 l0 x5_1).f2).toList) == (((rd_T56 l1 x5_1).f2).toList))))) = true
              · rw [if_pos c7] at H
                have c7b0 : (!(((rd_T56 l0 x5_1).f0) == ((rd_T56 l1 x5_1).f0)) || (!(((rd_T56 l0 x5_1).f1) == ((rd_T56 l1 x5_1).f1)) || (!((((rd_T56 l0 x5_1).f2).toList) == (((rd_T56 l1 x5_1).f2).toList))))) = true := c7
                clear c7
                obtain rfl := Option.some.inj H
                have p291 : 0 ≤ (x5_1 : Int) := of_decide_eq_true (by first | (with_reducible assumption) | assumption)
                have q291 : x5_1 < (l0.length : Int) := of_decide_eq_true (by first | (with_reducible assumption) | assumption)
                obtain ⟨ad291, e291, hx291_0, hx291_1, hx291_2⟩ := at_T56 HR0.out x5_1 p291 q291
                cases e291
                replace p291 := eq_true p291
                replace q291 := eq_true q291
                have p292 : 0 ≤ (x5_1 : Int) := of_decide_eq_true (by first | (with_reducible assumption) | assumption)
                have q292 : x5_1 < (l1.length : Int) := of_decide_eq_true (by first | (with_reducible assumption) | assumption)
                obtain ⟨ad292, e292, hx292_0, hx292_1, hx292_2⟩ := at_T56 HR1.out x5_1 p292 q292
                cases e292
                replace p292 := eq_true p292
                replace q292 := eq_true q292
                go_wp2
                repeat (go_quiet (fail); try go_wp2)
                go_ret
                exact ⟨by first | rfl | (simp; done) | (simp [*]; done), by repeat (first | exact Drawn0.refl _ | apply Drawn0.step)⟩
              · rw [if_neg c7] at H
                have c7b0 : (!(((rd_T56 l0 x5_1).f0) == ((rd_T56 l1 x5_1).f0)) || (!(((rd_T56 l0 x5_1).f1) == ((rd_T56 l1 x5_1).f1)) || (!((((rd_T56 l0 x5_1).f2).toList) == (((rd_T56 l1 x5_1).f2).toList))))) = false := by simpa using c7
                clear c7
                have H' := Aside0.mk H
                clear H
                have p291 : 0 ≤ (x5_1 : Int) := of_decide_eq_true (by first | (with_reducible assumption) | assumption)
                have q291 : x5_1 < (l0.length : Int) := of_decide_eq_true (by first | (with_reducible assumption) | assumption)
                obtain ⟨ad291, e291, hx291_0, hx291_1, hx291_2⟩ := at_T56 HR0.out x5_1 p291 q291
                cases e291
                replace p291 := eq_true p291
                replace q291 := eq_true q291
                have p292 : 0 ≤ (x5_1 : Int) := of_decide_eq_true (by first | (with_reducible assumption) | assumption)
                have q292 : x5_1 < (l1.length : Int) := of_decide_eq_true (by first | (with_reducible assumption) | assumption)
                obtain ⟨ad292, e292, hx292_0, hx292_1, hx292_2⟩ := at_T56 HR1.out x5_1 p292 q292
                cases e292
                replace p292 := eq_true p292
                replace q292 := eq_true q292
                go_wp2
                repeat (go_quiet (fail); try go_wp2)
                go_roundg k1
                case measure => have := HK1.out; omega
                case rel => exact ⟨(wrap64 (x5_1 + 1)), (by first | rfl | (simp; done) | (simp [*]; done)), H', ⟨by have := HK1.out; omega⟩, by repeat (first | exact Drawn0.refl _ | apply Drawn0.step)⟩
            · rw [if_neg c6] at H
              exact absurd H (by simp)
          · rw [if_neg c5] at H
            exact absurd H (by simp)
        · rw [if_neg c4] at H
          have c4b0 : decide (x5_1 < (l0.length : Int)) = false := decide_eq_false c4
          clear c4
          obtain rfl := Option.some.inj H
          go_wp2
          repeat (go_quiet (fail); try go_wp2)
          go_ret
          exact ⟨by first | rfl | (simp; done) | (simp [*]; done), by repeat (first | exact Drawn0.refl _ | apply Drawn0.step)⟩
  · rw [if_neg c3] at H
    have c3b0 : ((l0.length : Int) == (l1.length : Int)) = false := beq_eq_false_iff_ne.mpr c3
    have c3b1 : ((l0.length : Int) != (l1.length : Int)) = true := bne_iff_ne.mpr c3
    have c3b2 : (l0.length == l1.length) = false := by first | simpa using c3 | (simp at c3 ⊢; omega)
    obtain rfl := Option.some.inj H
    go_enter Tryd.func17, Tryd.ntmps17
    go_wp2
    repeat (go_quiet (fail); try go_wp2)
    go_ret
    exact ⟨by first | rfl | (simp; done) | (simp [*]; done), by repeat (first | exact Drawn0.refl _ | apply Drawn0.step)⟩

/-! ### incipitlaw11_CellBack: function 7 -/
section
open Go.Proofs.YtpgcepfecmkkaaaDoor hiding below_then below_size hid hidden add_plain
def incipitlaw11_CellBack.f (k : Nat) (l0 : List S39) (a1 : Int) (l2 : List S56) : Option Bool :=
  if (l0.length : Int) > 100 then incipitlaw11_awake.f k else
  (incipitlaw11_wide.f k l2).bind fun t => if t = true then incipitlaw11_awake.f k else
  (cell_Fits.f k l0 l2).bind fun e => if e = 0 then
    (cell_PutCols.f k [] l0).bind fun b => (cell_Put.f k b a1 l2).bind fun d => if okB d = true ∧ d.length ≤ 140737488355328 then
      (cell_TakeCols.f k (st (toB d)) false).bind fun x => (cell_Take.f k x.2.1 x.2.2).bind fun m => (incipitref11_SameCols.f k x.1 l0).bind fun t => if t = true ∧ m.1 = a1 then
        (incipitref11_Same.f k m.2.1 l2).bind fun t => if t = true ∧ m.2.2.1.size = 0 ∧ m.2.2.2 = false then incipitlaw11_awake.f k else none else none
    else none
  else incipitlaw11_awake.f k
set_option maxHeartbeats 4000000 in
set_option maxRecDepth 100000 in
theorem incipitlaw11_CellBack.calls (k : Nat) (A0 : Option Addr) (c0 : Nat) (l0 : List S39) (a1 : Int) (A2 : Option Addr) (c2 : Nat) (l2 : List S56) (r : Bool) (w : World) (hr0 : Kd.C k39 w A0 l0.length l0) (hc0 : l0.length ≤ c0) (hr2 : Kd.C k56 w A2 l2.length l2) (hc2 : l2.length ≤ c2) (hT : Tabs w) (h : incipitlaw11_CellBack.f k l0 a1 l2 = some r) :
    Calls Tryd.prog 7 #[.slice A0 l0.length c0, .int .u64 a1, .slice A2 l2.length c2] w fun e w' => e = .returned (.bool r) ∧ Below w.heap.size w w' := by
  unfold incipitlaw11_CellBack.f at h
  go_enter Tryd.func7, Tryd.ntmps7
  by_cases h1 : (l0.length : Int) > 100
  · rw [if_pos h1] at h
    go_wp2_with fail
    refine (incipitlaw11_awake.calls k r w hT h).mono ?_
    rintro e w1 ⟨rfl, hb⟩
    go_wp2_with fail
    go_ret
    exact ⟨rfl, hb⟩
  rw [if_neg h1] at h
  obtain ⟨t, ht, h⟩ := Option.bind_eq_some_iff.1 h
  go_wp2_with fail
  refine (incipitlaw11_wide.calls k _ _ l2 t w hr2 hc2 ht).mono ?_
  rintro e w1 ⟨rfl, hd⟩
  have hb1 := hd.below
  clear hd
  have hT1 := hT.below hb1
  cases t with
  | true =>
    rw [if_pos rfl] at h
    go_wp2_with fail
    refine (incipitlaw11_awake.calls k r _ hT1 h).mono ?_
    rintro e w2 ⟨rfl, hb⟩
    go_wp2_with fail
    go_ret
    exact ⟨rfl, Go.Proofs.YtpgcepfecmkkaaaDoor.below_size hb1 hb⟩
  | false =>
    rw [if_neg (by decide)] at h
    obtain ⟨e1, he, h⟩ := Option.bind_eq_some_iff.1 h
    go_wp2_with fail
    refine (cell_Fits.calls k _ _ l0 _ _ l2 e1 _ (Kd.C_below hr0 hb1) hc0 (Kd.C_below hr2 hb1) hc2 hT1 he).mono ?_
    rintro e w2 ⟨rfl, hd2⟩
    have hb2 := Go.Proofs.YtpgcepfecmkkaaaDoor.below_size hb1 hd2
    clear hd2 hb1 hT1
    have hT2 := hT.below hb2
    by_cases he0 : e1 = 0
    · rw [if_pos he0] at h
      subst he0
      obtain ⟨b, hpc, h⟩ := Option.bind_eq_some_iff.1 h
      obtain ⟨d, hpu, h⟩ := Option.bind_eq_some_iff.1 h
      by_cases hd : okB d = true ∧ d.length ≤ 140737488355328
      · rw [if_pos hd] at h
        obtain ⟨hdo, hdl⟩ := hd
        obtain ⟨x, hx, h⟩ := Option.bind_eq_some_iff.1 h
        obtain ⟨m, hm, h⟩ := Option.bind_eq_some_iff.1 h
        obtain ⟨t3, ht3, h⟩ := Option.bind_eq_some_iff.1 h
        by_cases hc3 : t3 = true ∧ m.1 = a1
        · rw [if_pos hc3] at h
          obtain ⟨rfl, hma⟩ := hc3
          obtain ⟨t4, ht4, h⟩ := Option.bind_eq_some_iff.1 h
          by_cases hc4 : t4 = true ∧ m.2.2.1.size = 0 ∧ m.2.2.2 = false
          · rw [if_pos hc4] at h
            have hfin : incipitlaw11_awake.f k = some r := h
            obtain ⟨rfl, hms, hmb⟩ := hc4
            obtain ⟨x1, x2, x3⟩ := x
            obtain ⟨m1, m2, m3, m4⟩ := m
            simp only at hma hms hmb hm ht3 ht4
            subst hma
            subst hmb
            go_wp2_with fail
            refine (cell_PutCols.calls k none 0 [] _ _ l0 b _ (Kd.C_nil _ _) (Nat.le_refl _) (Kd.C_below hr0 hb2) hc0 hpc).mono ?_
            rintro e w3 ⟨v3, rfl, hR3, hb3⟩
            obtain ⟨A3, c3, rfl, hc3, hC3⟩ := Kd.R_reads hR3
            have hb3' := Go.Proofs.YtpgcepfecmkkaaaDoor.below_size hb2 hb3
            clear hb3 hb2 hR3
            go_wp2_with fail
            refine (cell_Put.calls k _ _ b m1 _ _ l2 d _ hC3 hc3 (Kd.C_below hr2 hb3') hc2 hpu).mono ?_
            rintro e w4 ⟨v4, rfl, hR4, hb4⟩
            obtain ⟨A4, c4, rfl, hc4, hC4⟩ := Kd.R_reads hR4
            have hb4' := Go.Proofs.YtpgcepfecmkkaaaDoor.below_size hb3' hb4
            clear hb4 hb3' hR4 hC3 hT2
            go_wp2_with fail
            have hRV := RV_bytes hC4 hc4 hdo
            refine (from_calls _ (toB d) _ (by rw [toB_length] at hRV ⊢; exact hRV) (by rw [toB_length]; exact hdl)).mono ?_
            rintro e w5 ⟨⟨p, kb, rfl, hp1, hp2, hkb1, hkb2, hcut⟩, hb5⟩
            have hp0 : w.heap.size ≤ p := Nat.le_trans hb4'.size hp1
            have hb5' := Go.Proofs.YtpgcepfecmkkaaaDoor.below_size hb4' hb5
            clear hb5 hC4 hRV
            obtain ⟨w0, hw0, hw05, hI⟩ := IsS70.start hcut hb5' hp0 hkb2
            clear hcut
            go_wp2_with fail
            refine (cell_TakeCols.calls k p (st (toB d)) false x1 x2 x3 w0 w5 hI hw05 hx).mono ?_
            rintro e w6 ⟨v6, rfl, hR6, hI6, hB6, hk6⟩
            have hR6' := hI6.apart hR6 (by decide)
            clear hR6 hI
            go_wp2_with fail
            refine (cell_Take.calls k p x2 x3 m1 m2 m3 false w0 w6 hI6 hB6 (hT.below hw0) hm).mono ?_
            rintro e w7 ⟨v7, rfl, hR7, hI7, hB7, hk7⟩
            have hR6'' := Kd.R_keep hR6' hk7 (fun _ h => h.2)
            clear hR6' hk7 hk6 hI6 hB6
            have hb7 := Go.Proofs.YtpgcepfecmkkaaaDoor.below_size hw0 hB7
            obtain ⟨A6, c6, rfl, hc6, hC6⟩ := Kd.R_reads hR6''
            obtain ⟨A7, c7, rfl, hc7, hC7⟩ := Kd.R_reads hR7
            go_wp2_with fail
            refine (incipitref11_SameCols.calls k _ _ x1 _ _ l0 true _ hC6 hc6 (Kd.C_below hr0 hb7) hc0 ht3).mono ?_
            rintro e w8 ⟨rfl, hd8⟩
            have hb78 := hd8.below
            have hb8 := Go.Proofs.YtpgcepfecmkkaaaDoor.below_size hb7 hb78
            go_wp2_with fail
            refine (incipitref11_Same.calls k _ _ m2 _ _ l2 true _ (Kd.C_below hC7 hb78) hc7 (Kd.C_below hr2 hb8) hc2 ht4).mono ?_
            rintro e w9 ⟨rfl, hd9⟩
            have hb89 := hd9.below
            have hb79 := Go.Proofs.YtpgcepfecmkkaaaDoor.below_size hb78 hb89
            have hI9 := hI7.below hb79
            have hB9 := Go.Proofs.YtpgcepfecmkkaaaDoor.below_size hB7 hb79
            have hb9 := Go.Proofs.YtpgcepfecmkkaaaDoor.below_size hb8 hb89
            clear hd8 hd9 hC6 hC7 hb78 hb89 hb79 hb8 hR6'' hR7 hI7 hB7
            obtain ⟨kb9, hk9, hv9⟩ := hI9.cut hB9
            go_wp2_with fail
            refine (done_calls w9 _ (tb m3) false hv9 false (by show _ = _; rw [tb_length, hms]; rfl) 0 rfl).mono ?_
            rintro e w10 ⟨rfl, hv10, hg10⟩
            have hb10 : Below w.heap.size w w10 := hb9.grown hg10 hb9.size (fun k_ e_ => by simp only [cutBlk, Option.some.injEq] at e_; omega)
            go_wp2_with fail
            refine (incipitlaw11_awake.calls k r _ (hT.below hb10) hfin).mono ?_
            rintro e w11 ⟨rfl, hb11⟩
            go_wp2_with fail
            go_ret
            exact ⟨rfl, Go.Proofs.YtpgcepfecmkkaaaDoor.below_size hb10 hb11⟩
          · rw [if_neg hc4] at h; cases h
        · rw [if_neg hc3] at h; cases h
      · rw [if_neg hd] at h; cases h
    · rw [if_neg he0] at h
      go_wp2_with fail
      refine (incipitlaw11_awake.calls k r _ hT2 h).mono ?_
      rintro e w3 ⟨rfl, hb⟩
      go_wp2_with fail
      go_ret
      exact ⟨rfl, Go.Proofs.YtpgcepfecmkkaaaDoor.below_size hb2 hb⟩
end


/-- THE ONE PURE STATEMENT of incipitlaw11_CellBack: yours. -/
def incipitlaw11_CellBack.Pure : Prop := ∀ (l0 : List (S39)) (a1 : Int) (l2 : List (S56)), l0.length ≤ 9223372036854775807 → (∀ y0 ∈ l0, (y0.f0.size ≤ maxLen ∧ (Lit.int .i64 y0.f1).wf = true)) → (Lit.int .u64 a1).wf = true → l2.length ≤ 9223372036854775807 → (∀ y0 ∈ l2, ((Lit.int .i64 y0.f0).wf = true ∧ (Lit.int .i64 y0.f1).wf = true ∧ y0.f2.size ≤ maxLen)) → ∃ k, incipitlaw11_CellBack.f k l0 a1 l2 = some true
theorem incipitlaw11_CellBack.walk (P : incipitlaw11_CellBack.Pure) (A0 : Option Addr) (c0 : Nat) (l0 : List (S39)) (a1 : Int) (A2 : Option Addr) (c2 : Nat) (l2 : List (S56)) (w : World) (hr0 : Kd.C k39 w A0 l0.length l0) (hc0 : l0.length ≤ c0) (hw0 : (∀ y0 ∈ l0, (y0.f0.size ≤ maxLen ∧ (Lit.int .i64 y0.f1).wf = true))) (w1 : (Lit.int .u64 a1).wf = true) (hr2 : Kd.C k56 w A2 l2.length l2) (hc2 : l2.length ≤ c2) (hw2 : (∀ y0 ∈ l2, ((Lit.int .i64 y0.f0).wf = true ∧ (Lit.int .i64 y0.f1).wf = true ∧ y0.f2.size ≤ maxLen))) (hT : Tabs w) :
    Calls Tryd.prog 7 #[.slice A0 l0.length c0, .int .u64 a1, .slice A2 l2.length c2] w fun e w' => e = .returned (.bool true) ∧ Below w.heap.size w w' := by
  obtain ⟨k, h⟩ := P l0 a1 l2 hr0.2.1 hw0 w1 hr2.2.1 hw2
  refine (incipitlaw11_CellBack.calls k _ _ l0 a1 _ _ l2 true w hr0 hc0 hr2 hc2 hT h).mono ?_
  rintro e w' ⟨rfl, hd⟩
  exact ⟨rfl, hd⟩

end Go.Proofs.YtpgcepfecmkkaaaDoorZ.ZA
