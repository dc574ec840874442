-- Laid by a program of this session (a turned copy of the print).
import Derived.Test.YtjeomkojpkienaaDoorZAx0
import Derived.Test.YtjeomkojpkienaaDoorZAx3
import Derived.Test.YtjeomkojpkienaaDoorZAx4
import Derived.Test.YtjeomkojpkienaaDoorZAx8
namespace Go.Proofs.YtjeomkojpkienaaDoorZ.ZA
open Go.RowKit Go.Proofs.YtjeomkojpkienaaDoorW.PrintWords Go.Proofs.YtjeomkojpkienaaDoorW.PrintLast Go.Proofs.YtjeomkojpkienaaDoorW.PrintMore
attribute [local go_sem] max2_int min2_int max_two min_two max_three min_three max_four min_four   -- for this text's walks alone
set_option linter.unusedVariables false
set_option linter.unusedSimpArgs false

/-! ### incipitlaw09_WordsParted: function 5 -/
mutual
def incipitlaw09_WordsParted.j0 : Nat → List ByteArray → List Int → Bool → Option (Bool)
  | 0, _, _, _ => none
  | k + 1, x0, x1, x17 => if x17 = true then ((incipitlaw09_awake.f).bind fun t220 => (some t220)) else (incipitlaw09_WordsParted.l0 k x0 x1 (⟨#[]⟩ : ByteArray) 0)
def incipitlaw09_WordsParted.l0 : Nat → List ByteArray → List Int → ByteArray → Int → Option (Bool)
  | 0, _, _, _, _ => none
  | k + 1, x0, x1, x5, x6 => if x6 < (x0.length : Int) then (if 0 ≤ x6 then (if ((rdOf ByteArray.empty x0 x6).size : Int) > 100 then (incipitlaw09_WordsParted.j2 k x0 x1 x5 x6 true) else ((words_One.f (rdOf ByteArray.empty x0 x6) ([] : List ByteArray)).bind fun t223 => (incipitlaw09_WordsParted.j2 k x0 x1 x5 x6 (!t223)))) else (none)) else ((words_Words.f x5 ([] : List ByteArray)).bind fun bt233 => (if bt233.2 = 0 then (incipitlaw09_WordsParted.j3 k x0 bt233.1 ((bt233.1.length : Int) != (x0.length : Int))) else (incipitlaw09_WordsParted.j3 k x0 bt233.1 true)))
def incipitlaw09_WordsParted.j2 : Nat → List ByteArray → List Int → ByteArray → Int → Bool → Option (Bool)
  | 0, _, _, _, _, _ => none
  | k + 1, x0, x1, x5, x6, x38 => if x38 = true then ((incipitlaw09_awake.f).bind fun t224 => (some t224)) else (if x6 > 0 then (if x5.size + 1 ≤ 9223372036854775807 then (if x6 < (x1.length : Int) then (if 0 ≤ x6 then ((incipitlaw09_gap.f (rd x1 x6)).bind fun t226 => (if (x5 ++ (⟨#[32]⟩ : ByteArray)).size + t226.size ≤ 9223372036854775807 then (if x6 < (x0.length : Int) then (if ((x5 ++ (⟨#[32]⟩ : ByteArray)) ++ t226).size + (rdOf ByteArray.empty x0 x6).size ≤ 9223372036854775807 then (incipitlaw09_WordsParted.l0 k x0 x1 (((x5 ++ (⟨#[32]⟩ : ByteArray)) ++ t226) ++ (rdOf ByteArray.empty x0 x6)) (wrap64 (x6 + 1))) else (none)) else (none)) else (none))) else (none)) else (if 0 ≤ x6 then (if x6 < (x0.length : Int) then (if (x5 ++ (⟨#[32]⟩ : ByteArray)).size + (rdOf ByteArray.empty x0 x6).size ≤ 9223372036854775807 then (incipitlaw09_WordsParted.l0 k x0 x1 ((x5 ++ (⟨#[32]⟩ : ByteArray)) ++ (rdOf ByteArray.empty x0 x6)) (wrap64 (x6 + 1))) else (none)) else (none)) else (none))) else (none)) else (if x6 < (x1.length : Int) then (if 0 ≤ x6 then ((incipitlaw09_gap.f (rd x1 x6)).bind fun t230 => (if x5.size + t230.size ≤ 9223372036854775807 then (if x6 < (x0.length : Int) then (if (x5 ++ t230).size + (rdOf ByteArray.empty x0 x6).size ≤ 9223372036854775807 then (incipitlaw09_WordsParted.l0 k x0 x1 ((x5 ++ t230) ++ (rdOf ByteArray.empty x0 x6)) (wrap64 (x6 + 1))) else (none)) else (none)) else (none))) else (none)) else (if 0 ≤ x6 then (if x6 < (x0.length : Int) then (if x5.size + (rdOf ByteArray.empty x0 x6).size ≤ 9223372036854775807 then (incipitlaw09_WordsParted.l0 k x0 x1 (x5 ++ (rdOf ByteArray.empty x0 x6)) (wrap64 (x6 + 1))) else (none)) else (none)) else (none))))
def incipitlaw09_WordsParted.j3 : Nat → List ByteArray → List (S36) → Bool → Option (Bool)
  | 0, _, _, _ => none
  | k + 1, x0, x7, x74 => if x74 = true then (some false) else (incipitlaw09_WordsParted.l1 k x0 x7 0)
def incipitlaw09_WordsParted.l1 : Nat → List ByteArray → List (S36) → Int → Option (Bool)
  | 0, _, _, _ => none
  | k + 1, x0, x7, x9 => if x9 < (x7.length : Int) then (if 0 ≤ x9 then (if x9 < (x0.length : Int) then (if ((rd_T36 x7 x9).f0).toList = (rdOf ByteArray.empty x0 x9).toList then (if ((rd_T36 x7 x9).f1) = x9 then (incipitlaw09_WordsParted.l1 k x0 x7 (wrap64 (x9 + 1))) else (some false)) else (some false)) else (none)) else (none)) else ((incipitlaw09_awake.f).bind fun t240 => (some t240))
end
def incipitlaw09_WordsParted.f (k : Nat) (l0 : List ByteArray) (l1 : List Int) : Option (Bool) := if (l0.length : Int) > 48 then (incipitlaw09_WordsParted.j0 k l0 l1 true) else (incipitlaw09_WordsParted.j0 k l0 l1 (decide ((l1.length : Int) > 200)))
theorem incipitlaw09_WordsParted.mono_l : ∀ k, (∀ y0 y1 y2, LeO (incipitlaw09_WordsParted.j0 k y0 y1 y2) (incipitlaw09_WordsParted.j0 (k + 1) y0 y1 y2)) ∧ (∀ y0 y1 y2 y3, LeO (incipitlaw09_WordsParted.l0 k y0 y1 y2 y3) (incipitlaw09_WordsParted.l0 (k + 1) y0 y1 y2 y3)) ∧ (∀ y0 y1 y2 y3 y4, LeO (incipitlaw09_WordsParted.j2 k y0 y1 y2 y3 y4) (incipitlaw09_WordsParted.j2 (k + 1) y0 y1 y2 y3 y4)) ∧ (∀ y0 y1 y2, LeO (incipitlaw09_WordsParted.j3 k y0 y1 y2) (incipitlaw09_WordsParted.j3 (k + 1) y0 y1 y2)) ∧ (∀ y0 y1 y2, LeO (incipitlaw09_WordsParted.l1 k y0 y1 y2) (incipitlaw09_WordsParted.l1 (k + 1) y0 y1 y2))
  | 0 => ⟨fun _ _ _ r h => by simp [incipitlaw09_WordsParted.j0] at h, fun _ _ _ _ r h => by simp [incipitlaw09_WordsParted.l0] at h, fun _ _ _ _ _ r h => by simp [incipitlaw09_WordsParted.j2] at h, fun _ _ _ r h => by simp [incipitlaw09_WordsParted.j3] at h, fun _ _ _ r h => by simp [incipitlaw09_WordsParted.l1] at h⟩
  | k + 1 => by
    obtain ⟨ih0, ih1, ih2, ih3, ih4⟩ := incipitlaw09_WordsParted.mono_l k
    refine ⟨?_, ?_, ?_, ?_, ?_⟩
    · intro y0 y1 y2
      unfold incipitlaw09_WordsParted.j0
      repeat' first
      | (with_reducible exact ih0 _ _ _)
      | (with_reducible exact ih1 _ _ _ _)
      | (with_reducible exact ih2 _ _ _ _ _)
      | (with_reducible exact ih3 _ _ _)
      | (with_reducible exact ih4 _ _ _)
      | (with_reducible exact LeO.refl _)
      | (with_reducible exact LeO.none _)
      | (with_reducible refine LeO.ite ?_ ?_)
      | (with_reducible refine LeO.bind ?_ (fun _ => ?_))
      | exact ih0 _ _ _
      | exact ih1 _ _ _ _
      | exact ih2 _ _ _ _ _
      | exact ih3 _ _ _
      | exact ih4 _ _ _
      | exact LeO.none _
      | refine LeO.ite ?_ ?_
      | refine LeO.bind ?_ (fun _ => ?_)
    · intro y0 y1 y2 y3
      unfold incipitlaw09_WordsParted.l0
      repeat' first
      | (with_reducible exact ih0 _ _ _)
      | (with_reducible exact ih1 _ _ _ _)
      | (with_reducible exact ih2 _ _ _ _ _)
      | (with_reducible exact ih3 _ _ _)
      | (with_reducible exact ih4 _ _ _)
      | (with_reducible exact LeO.refl _)
      | (with_reducible exact LeO.none _)
      | (with_reducible refine LeO.ite ?_ ?_)
      | (with_reducible refine LeO.bind ?_ (fun _ => ?_))
      | exact ih0 _ _ _
      | exact ih1 _ _ _ _
      | exact ih2 _ _ _ _ _
      | exact ih3 _ _ _
      | exact ih4 _ _ _
      | exact LeO.none _
      | refine LeO.ite ?_ ?_
      | refine LeO.bind ?_ (fun _ => ?_)
    · intro y0 y1 y2 y3 y4
      unfold incipitlaw09_WordsParted.j2
      repeat' first
      | (with_reducible exact ih0 _ _ _)
      | (with_reducible exact ih1 _ _ _ _)
      | (with_reducible exact ih2 _ _ _ _ _)
      | (with_reducible exact ih3 _ _ _)
      | (with_reducible exact ih4 _ _ _)
      | (with_reducible exact LeO.refl _)
      | (with_reducible exact LeO.none _)
      | (with_reducible refine LeO.ite ?_ ?_)
      | (with_reducible refine LeO.bind ?_ (fun _ => ?_))
      | exact ih0 _ _ _
      | exact ih1 _ _ _ _
      | exact ih2 _ _ _ _ _
      | exact ih3 _ _ _
      | exact ih4 _ _ _
      | exact LeO.none _
      | refine LeO.ite ?_ ?_
      | refine LeO.bind ?_ (fun _ => ?_)
    · intro y0 y1 y2
      unfold incipitlaw09_WordsParted.j3
      repeat' first
      | (with_reducible exact ih0 _ _ _)
      | (with_reducible exact ih1 _ _ _ _)
      | (with_reducible exact ih2 _ _ _ _ _)
      | (with_reducible exact ih3 _ _ _)
      | (with_reducible exact ih4 _ _ _)
      | (with_reducible exact LeO.refl _)
      | (with_reducible exact LeO.none _)
      | (with_reducible refine LeO.ite ?_ ?_)
      | (with_reducible refine LeO.bind ?_ (fun _ => ?_))
      | exact ih0 _ _ _
      | exact ih1 _ _ _ _
      | exact ih2 _ _ _ _ _
      | exact ih3 _ _ _
      | exact ih4 _ _ _
      | exact LeO.none _
      | refine LeO.ite ?_ ?_
      | refine LeO.bind ?_ (fun _ => ?_)
    · intro y0 y1 y2
      unfold incipitlaw09_WordsParted.l1
      repeat' first
      | (with_reducible exact ih0 _ _ _)
      | (with_reducible exact ih1 _ _ _ _)
      | (with_reducible exact ih2 _ _ _ _ _)
      | (with_reducible exact ih3 _ _ _)
      | (with_reducible exact ih4 _ _ _)
      | (with_reducible exact LeO.refl _)
      | (with_reducible exact LeO.none _)
      | (with_reducible refine LeO.ite ?_ ?_)
      | (with_reducible refine LeO.bind ?_ (fun _ => ?_))
      | exact ih0 _ _ _
      | exact ih1 _ _ _ _
      | exact ih2 _ _ _ _ _
      | exact ih3 _ _ _
      | exact ih4 _ _ _
      | exact LeO.none _
      | refine LeO.ite ?_ ?_
      | refine LeO.bind ?_ (fun _ => ?_)
theorem incipitlaw09_WordsParted.mono : ∀ a0 a1 k, LeO (incipitlaw09_WordsParted.f k a0 a1) (incipitlaw09_WordsParted.f (k + 1) a0 a1) := by
  intro a0 a1 k
  obtain ⟨ih0, ih1, ih2, ih3, ih4⟩ := incipitlaw09_WordsParted.mono_l k
  unfold incipitlaw09_WordsParted.f
  repeat' first
      | (with_reducible exact ih0 _ _ _)
      | (with_reducible exact ih1 _ _ _ _)
      | (with_reducible exact ih2 _ _ _ _ _)
      | (with_reducible exact ih3 _ _ _)
      | (with_reducible exact ih4 _ _ _)
      | (with_reducible exact LeO.refl _)
      | (with_reducible exact LeO.none _)
      | (with_reducible refine LeO.ite ?_ ?_)
      | (with_reducible refine LeO.bind ?_ (fun _ => ?_))
      | exact ih0 _ _ _
      | exact ih1 _ _ _ _
      | exact ih2 _ _ _ _ _
      | exact ih3 _ _ _
      | exact ih4 _ _ _
      | exact LeO.none _
      | refine LeO.ite ?_ ?_
      | refine LeO.bind ?_ (fun _ => ?_)
set_option maxHeartbeats 8000000 in
set_option maxRecDepth 100000 in
theorem incipitlaw09_WordsParted.calls (k : Nat) (A0 : Option Addr) (c0 : Nat) (l0 : List ByteArray) (A1 : Option Addr) (c1 : Nat) (l1 : List Int) (r : Bool) (w : World) (hr0 : Kd.C Kd.string w A0 l0.length l0) (hc0 : l0.length ≤ c0) (hr1 : Kd.C (Kd.int .i64) w A1 l1.length l1) (hc1 : l1.length ≤ c1) (hT : Tabs w) (h : incipitlaw09_WordsParted.f k l0 l1 = some r) :
    Calls Tryd.prog 5 #[.slice A0 l0.length c0, .slice A1 l1.length c1] w fun e w' => e = .returned (.bool r) ∧ Below w.heap.size w w' := by
  have HLT := Aside0.mk hT
  clear hT
  have HR0 := Aside0.mk hr0
  have HC0 := Aside0.mk hc0
  clear hr0 hc0
  have HR1 := Aside0.mk hr1
  have HC1 := Aside0.mk hc1
  clear hr1 hc1
  have HB := Aside0.mk (Below.refl w.heap.size w)
  have H : (if (l0.length : Int) > 48 then (incipitlaw09_WordsParted.j0 k l0 l1 true) else (incipitlaw09_WordsParted.j0 k l0 l1 (decide ((l1.length : Int) > 200)))) = some r := h
  clear h
  have HC3 := Aside0.mk H
  clear H
  go_enter Tryd.func5, Tryd.ntmps5
  go_upto_region 1 with (fail)
  repeat (go_quiet (fail); go_upto_region 1 with (fail))
  go_cut [17] (fun v17 wc => ∃ (kq : Nat) (x17_2 : Bool), v17 = .bool x17_2 ∧ Aside0 (incipitlaw09_WordsParted.j0 kq l0 l1 x17_2 = some r) ∧ Aside0 (kq ≤ k) ∧ Aside0 (Below w.heap.size w wc))
  case first =>
    have H := HC3.out
    clear HC3
    by_cases c4 : (l0.length : Int) > 48
    · rw [if_pos c4] at H
      have c4b0 : decide (48 < (l0.length : Int)) = true := decide_eq_true c4
      have c4b1 : decide (48 < l0.length) = true := decide_eq_true (by omega)
      clear c4
      (first | rw [c4b0] | (simp only [i64_w, i32_w]; rw [c4b0]) | skip)
      have H' := Aside0.mk H
      clear H
      go_wp2
      repeat (go_quiet (fail); try go_wp2)
      go_meet
      case rel => exact ⟨_, (true), (by first | rfl | (simp; done) | (simp [*]; done)), H', ⟨by first | omega | exact Nat.le_refl _⟩, ⟨by repeat (first | (with_reducible first | exact HB.out | apply below_alloc | apply pw_below_drewN | apply below_drew1) | exact HB.out)⟩⟩
    · rw [if_neg c4] at H
      have c4b0 : decide (48 < (l0.length : Int)) = false := decide_eq_false c4
      have c4b1 : decide (48 < l0.length) = false := decide_eq_false (by omega)
      clear c4
      (first | rw [c4b0] | (simp only [i64_w, i32_w]; rw [c4b0]) | skip)
      have H' := Aside0.mk H
      clear H
      go_wp2
      repeat (go_quiet (fail); try go_wp2)
      go_meet
      case rel => exact ⟨_, (decide ((l1.length : Int) > 200)), (by first | rfl | (simp; done) | (simp [*]; done)), H', ⟨by first | omega | exact Nat.le_refl _⟩, ⟨by repeat (first | (with_reducible first | exact HB.out | apply below_alloc | apply pw_below_drewN | apply below_drew1) | exact HB.out)⟩⟩
  case rest =>
    clear HC3
    try clear c1
    try clear p2
    try clear c4
    try clear c4b0
    try clear c4b1
    obtain ⟨kq, x17_2, rfl, HA, HJ2, HB⟩ := hcut
    cases kq with
    | zero => exact absurd HA.out (by simp [incipitlaw09_WordsParted.j0])
    | succ kj2 =>
      have H := HA.out
      clear HA
      simp only [incipitlaw09_WordsParted.j0] at H
      by_cases c5 : x17_2 = true
      · subst c5
        have H1 : ((incipitlaw09_awake.f).bind fun t220 => (some t220)) = some r := by rw [if_pos rfl] at H; exact H
        clear H
        have H := H1
        clear H1
        replace H := Option.bind_eq_some_iff.mp H
        obtain ⟨t220, A60, H⟩ := H
        replace H : (some t220) = some r := H
        have A6 := Aside0.mk A60
        clear A60
        obtain rfl := Option.some.inj H
        go_wp2_with (first | (go_at_call 10; (with_reducible refine (incipitlaw09_awake.calls  t220 _ ?side1 A6.out).mono ?_); (case side1 => repeat (first | exact (Tabs.below HLT.out HB.out) | (with_reducible refine Tabs.alloc ?_ _) | (with_reducible refine Tabs.drewN ?_ _) | (with_reducible refine Tabs.drew ?_))); rintro e w7 ⟨rfl, hb⟩; have n0_ := Aside0.mk (below_step (by repeat (first | (with_reducible first | exact HB.out | apply below_alloc | apply pw_below_drewN | apply below_drew1) | exact HB.out)) hb); clear HB; have HB := n0_; clear n0_; (try clear hb); (try clear hb2); (try clear hk); (try clear hi)))
        repeat (go_quiet (first | (go_at_call 10; (with_reducible refine (incipitlaw09_awake.calls  t220 _ ?side1 A6.out).mono ?_); (case side1 => repeat (first | exact (Tabs.below HLT.out HB.out) | (with_reducible refine Tabs.alloc ?_ _) | (with_reducible refine Tabs.drewN ?_ _) | (with_reducible refine Tabs.drew ?_))); rintro e w7 ⟨rfl, hb⟩; have n0_ := Aside0.mk (below_step (by repeat (first | (with_reducible first | exact HB.out | apply below_alloc | apply pw_below_drewN | apply below_drew1) | exact HB.out)) hb); clear HB; have HB := n0_; clear n0_; (try clear hb); (try clear hb2); (try clear hk); (try clear hi))); try go_wp2_with (first | (go_at_call 10; (with_reducible refine (incipitlaw09_awake.calls  t220 _ ?side1 A6.out).mono ?_); (case side1 => repeat (first | exact (Tabs.below HLT.out HB.out) | (with_reducible refine Tabs.alloc ?_ _) | (with_reducible refine Tabs.drewN ?_ _) | (with_reducible refine Tabs.drew ?_))); rintro e w7 ⟨rfl, hb⟩; have n0_ := Aside0.mk (below_step (by repeat (first | (with_reducible first | exact HB.out | apply below_alloc | apply pw_below_drewN | apply below_drew1) | exact HB.out)) hb); clear HB; have HB := n0_; clear n0_; (try clear hb); (try clear hb2); (try clear hk); (try clear hi))))
        go_ret
        exact ⟨by first | rfl | (simp [errW_none, errW_some] <;> rfl) | (simp [*, errW_none, errW_some] <;> rfl), by repeat (first | (with_reducible first | exact HB.out | apply below_alloc | apply pw_below_drewN | apply below_drew1) | exact HB.out)⟩
      · replace c5 := Bool.eq_false_iff.mpr c5
        subst c5
        have H1 : (incipitlaw09_WordsParted.l0 kj2 l0 l1 (⟨#[]⟩ : ByteArray) 0) = some r := by rw [if_neg (show ¬ (false = true) by decide)] at H; exact H
        clear H
        have H := H1
        clear H1
        have H' := Aside0.mk H
        clear H
        go_wp2
        repeat (go_quiet (fail); try go_wp2)
        go_loopg [5, 6] kj2 (fun kq v5 v6 w' => ∃ (x5_2 : ByteArray) (x6_2 : Int), v5 = .string x5_2 ∧ v6 = .int .i64 x6_2 ∧ Aside0 (incipitlaw09_WordsParted.l0 kq l0 l1 x5_2 x6_2 = some r) ∧ Aside0 (kq ≤ kj2) ∧ Aside0 (Below w.heap.size w w'))
        case atStart => exact ⟨((⟨#[]⟩ : ByteArray)), (0), (by first | rfl | (simp; done) | (simp [*]; done)), (by first | rfl | (simp; done) | (simp [*]; done)), H', ⟨Nat.le_refl _⟩, ⟨by repeat (first | (with_reducible first | exact HB.out | apply below_alloc | apply pw_below_drewN | apply below_drew1) | exact HB.out)⟩⟩
        case round =>
          clear H'
          try clear c1
          try clear p2
          try clear c4
          try clear c4b0
          try clear c4b1
          try clear c5
          try clear p2
          obtain ⟨x5_2, x6_2, rfl, rfl, HA, HK2, HB⟩ := hrel
          cases gk with
          | zero => exact absurd HA.out (by simp [incipitlaw09_WordsParted.l0])
          | succ k2 =>
            have H := HA.out
            clear HA
            simp only [incipitlaw09_WordsParted.l0] at H
            by_cases c8 : x6_2 < (l0.length : Int)
            · rw [if_pos c8] at H
              have c8b0 : decide (x6_2 < (l0.length : Int)) = true := decide_eq_true c8
              clear c8
              have HC9 := Aside0.mk H
              clear H
              go_upto_region 7 with (fail)
              repeat (go_quiet (fail); go_upto_region 7 with (fail))
              go_cut [38] (fun v38 wc => ∃ (kq : Nat) (x38_8 : Bool), v38 = .bool x38_8 ∧ Aside0 (incipitlaw09_WordsParted.j2 kq l0 l1 x5_2 x6_2 x38_8 = some r) ∧ Aside0 (kq ≤ k2) ∧ Aside0 (Below w.heap.size w wc))
              case first =>
                have H := HC9.out
                clear HC9
                by_cases c10 : 0 ≤ x6_2
                · rw [if_pos c10] at H
                  have c10b0 : decide (0 ≤ x6_2) = true := decide_eq_true c10
                  clear c10
                  (first | rw [c10b0] | (simp only [i64_w, i32_w]; rw [c10b0]) | skip)
                  by_cases c11 : ((rdOf ByteArray.empty l0 x6_2).size : Int) > 100
                  · rw [if_pos c11] at H
                    have c11b0 : decide (100 < ((rdOf ByteArray.empty l0 x6_2).size : Int)) = true := decide_eq_true c11
                    have c11b1 : decide (100 < (rdOf ByteArray.empty l0 x6_2).size) = true := decide_eq_true (by omega)
                    clear c11
                    have H' := Aside0.mk H
                    clear H
                    have p221 : 0 ≤ (x6_2 : Int) := of_decide_eq_true (by first | (with_reducible assumption) | assumption)
                    have q221 : x6_2 < (l0.length : Int) := of_decide_eq_true (by first | (with_reducible assumption) | assumption)
                    obtain ⟨ad221, e221, hx221_0⟩ := Kd.at_string HR0.out x6_2 p221 q221
                    cases e221
                    replace hx221_0 := (HB.out.cell (World.block_lt_of_cell? w _ hx221_0)).trans hx221_0
                    replace p221 := eq_true p221
                    replace q221 := eq_true q221
                    go_wp2
                    repeat (go_quiet (fail); try go_wp2)
                    go_meet
                    case rel => exact ⟨_, (true), (by first | rfl | (simp; done) | (simp [*]; done)), H', ⟨by have := HJ2.out; have := HK2.out; first | omega | exact Nat.le_refl _⟩, ⟨by repeat (first | (with_reducible first | exact HB.out | apply below_alloc | apply pw_below_drewN | apply below_drew1) | exact HB.out)⟩⟩
                  · rw [if_neg c11] at H
                    have c11b0 : decide (100 < ((rdOf ByteArray.empty l0 x6_2).size : Int)) = false := decide_eq_false c11
                    have c11b1 : decide (100 < (rdOf ByteArray.empty l0 x6_2).size) = false := decide_eq_false (by omega)
                    clear c11
                    replace H := Option.bind_eq_some_iff.mp H
                    obtain ⟨t223, A120, H⟩ := H
                    replace H : (incipitlaw09_WordsParted.j2 k2 l0 l1 x5_2 x6_2 (!t223)) = some r := H
                    have A12 := Aside0.mk A120
                    clear A120
                    have H' := Aside0.mk H
                    clear H
                    have p221 : 0 ≤ (x6_2 : Int) := of_decide_eq_true (by first | (with_reducible assumption) | assumption)
                    have q221 : x6_2 < (l0.length : Int) := of_decide_eq_true (by first | (with_reducible assumption) | assumption)
                    obtain ⟨ad221, e221, hx221_0⟩ := Kd.at_string HR0.out x6_2 p221 q221
                    cases e221
                    replace hx221_0 := (HB.out.cell (World.block_lt_of_cell? w _ hx221_0)).trans hx221_0
                    replace p221 := eq_true p221
                    replace q221 := eq_true q221
                    have p222 : 0 ≤ (x6_2 : Int) := of_decide_eq_true (by first | (with_reducible assumption) | assumption)
                    have q222 : x6_2 < (l0.length : Int) := of_decide_eq_true (by first | (with_reducible assumption) | assumption)
                    obtain ⟨ad222, e222, hx222_0⟩ := Kd.at_string HR0.out x6_2 p222 q222
                    obtain rfl : ad221 = ad222 := (by injection e222)
                    replace hx222_0 := (HB.out.cell (World.block_lt_of_cell? w _ hx222_0)).trans hx222_0
                    replace p222 := eq_true p222
                    replace q222 := eq_true q222
                    go_wp2_with (first | (go_at_call 15; (refine (words_One.calls (rdOf ByteArray.empty l0 x6_2) _ _ ([] : List ByteArray) t223 _ ?side1 ?side2 ?side3 A12.out).mono ?_); (case side1 => exact Kd.C_nil _ _); (case side2 => exact Nat.le_refl _); (case side3 => repeat (first | exact (Tabs.below HLT.out HB.out) | (with_reducible refine Tabs.alloc ?_ _) | (with_reducible refine Tabs.drewN ?_ _) | (with_reducible refine Tabs.drew ?_))); rintro e w13 ⟨rfl, hb⟩; have n0_ := Aside0.mk (below_step (by repeat (first | (with_reducible first | exact HB.out | apply below_alloc | apply pw_below_drewN | apply below_drew1) | exact HB.out)) hb); clear HB; have HB := n0_; clear n0_; (try clear hb); (try clear hb2); (try clear hk); (try clear hi)))
                    repeat (go_quiet (first | (go_at_call 15; (refine (words_One.calls (rdOf ByteArray.empty l0 x6_2) _ _ ([] : List ByteArray) t223 _ ?side1 ?side2 ?side3 A12.out).mono ?_); (case side1 => exact Kd.C_nil _ _); (case side2 => exact Nat.le_refl _); (case side3 => repeat (first | exact (Tabs.below HLT.out HB.out) | (with_reducible refine Tabs.alloc ?_ _) | (with_reducible refine Tabs.drewN ?_ _) | (with_reducible refine Tabs.drew ?_))); rintro e w13 ⟨rfl, hb⟩; have n0_ := Aside0.mk (below_step (by repeat (first | (with_reducible first | exact HB.out | apply below_alloc | apply pw_below_drewN | apply below_drew1) | exact HB.out)) hb); clear HB; have HB := n0_; clear n0_; (try clear hb); (try clear hb2); (try clear hk); (try clear hi))); try go_wp2_with (first | (go_at_call 15; (refine (words_One.calls (rdOf ByteArray.empty l0 x6_2) _ _ ([] : List ByteArray) t223 _ ?side1 ?side2 ?side3 A12.out).mono ?_); (case side1 => exact Kd.C_nil _ _); (case side2 => exact Nat.le_refl _); (case side3 => repeat (first | exact (Tabs.below HLT.out HB.out) | (with_reducible refine Tabs.alloc ?_ _) | (with_reducible refine Tabs.drewN ?_ _) | (with_reducible refine Tabs.drew ?_))); rintro e w13 ⟨rfl, hb⟩; have n0_ := Aside0.mk (below_step (by repeat (first | (with_reducible first | exact HB.out | apply below_alloc | apply pw_below_drewN | apply below_drew1) | exact HB.out)) hb); clear HB; have HB := n0_; clear n0_; (try clear hb); (try clear hb2); (try clear hk); (try clear hi))))
                    go_meet
                    case rel => exact ⟨_, (!t223), (by first | rfl | (simp; done) | (simp [*]; done)), H', ⟨by have := HJ2.out; have := HK2.out; first | omega | exact Nat.le_refl _⟩, ⟨by repeat (first | (with_reducible first | exact HB.out | apply below_alloc | apply pw_below_drewN | apply below_drew1) | exact HB.out)⟩⟩
                · rw [if_neg c10] at H
                  exact absurd H (by simp)
              case rest =>
                clear HC9
                try clear c1
                try clear p2
                try clear q2
                try clear hx2
                try clear c4
                try clear c4b0
                try clear c4b1
                try clear c5
                try clear c8
                try clear c8b0
                try clear c10
                try clear c10b0
                try clear c11
                try clear c11b0
                try clear c11b1
                try clear hx221_0
                try clear hx222_0
                try clear p2
                try clear p221
                try clear p222
                try clear q221
                try clear q222
                obtain ⟨kq, x38_8, rfl, HA, HJ8, HB⟩ := hcut
                cases kq with
                | zero => exact absurd HA.out (by simp [incipitlaw09_WordsParted.j2])
                | succ kj8 =>
                  have H := HA.out
                  clear HA
                  simp only [incipitlaw09_WordsParted.j2] at H
                  by_cases c14 : x38_8 = true
                  · subst c14
                    have H1 : ((incipitlaw09_awake.f).bind fun t224 => (some t224)) = some r := by rw [if_pos rfl] at H; exact H
                    clear H
                    have H := H1
                    clear H1
                    replace H := Option.bind_eq_some_iff.mp H
                    obtain ⟨t224, A150, H⟩ := H
                    replace H : (some t224) = some r := H
                    have A15 := Aside0.mk A150
                    clear A150
                    obtain rfl := Option.some.inj H
                    go_wp2_with (first | (go_at_call 10; (with_reducible refine (incipitlaw09_awake.calls  t224 _ ?side1 A15.out).mono ?_); (case side1 => repeat (first | exact (Tabs.below HLT.out HB.out) | (with_reducible refine Tabs.alloc ?_ _) | (with_reducible refine Tabs.drewN ?_ _) | (with_reducible refine Tabs.drew ?_))); rintro e w16 ⟨rfl, hb⟩; have n0_ := Aside0.mk (below_step (by repeat (first | (with_reducible first | exact HB.out | apply below_alloc | apply pw_below_drewN | apply below_drew1) | exact HB.out)) hb); clear HB; have HB := n0_; clear n0_; (try clear hb); (try clear hb2); (try clear hk); (try clear hi)))
                    repeat (go_quiet (first | (go_at_call 10; (with_reducible refine (incipitlaw09_awake.calls  t224 _ ?side1 A15.out).mono ?_); (case side1 => repeat (first | exact (Tabs.below HLT.out HB.out) | (with_reducible refine Tabs.alloc ?_ _) | (with_reducible refine Tabs.drewN ?_ _) | (with_reducible refine Tabs.drew ?_))); rintro e w16 ⟨rfl, hb⟩; have n0_ := Aside0.mk (below_step (by repeat (first | (with_reducible first | exact HB.out | apply below_alloc | apply pw_below_drewN | apply below_drew1) | exact HB.out)) hb); clear HB; have HB := n0_; clear n0_; (try clear hb); (try clear hb2); (try clear hk); (try clear hi))); try go_wp2_with (first | (go_at_call 10; (with_reducible refine (incipitlaw09_awake.calls  t224 _ ?side1 A15.out).mono ?_); (case side1 => repeat (first | exact (Tabs.below HLT.out HB.out) | (with_reducible refine Tabs.alloc ?_ _) | (with_reducible refine Tabs.drewN ?_ _) | (with_reducible refine Tabs.drew ?_))); rintro e w16 ⟨rfl, hb⟩; have n0_ := Aside0.mk (below_step (by repeat (first | (with_reducible first | exact HB.out | apply below_alloc | apply pw_below_drewN | apply below_drew1) | exact HB.out)) hb); clear HB; have HB := n0_; clear n0_; (try clear hb); (try clear hb2); (try clear hk); (try clear hi))))
                    go_ret
                    exact ⟨by first | rfl | (simp [errW_none, errW_some] <;> rfl) | (simp [*, errW_none, errW_some] <;> rfl), by repeat (first | (with_reducible first | exact HB.out | apply below_alloc | apply pw_below_drewN | apply below_drew1) | exact HB.out)⟩
                  · replace c14 := Bool.eq_false_iff.mpr c14
                    subst c14
                    have H1 : (if x6_2 > 0 then (if x5_2.size + 1 ≤ 9223372036854775807 then (if x6_2 < (l1.length : Int) then (if 0 ≤ x6_2 then ((incipitlaw09_gap.f (rd l1 x6_2)).bind fun t226 => (if (x5_2 ++ (⟨#[32]⟩ : ByteArray)).size + t226.size ≤ 9223372036854775807 then (if x6_2 < (l0.length : Int) then (if ((x5_2 ++ (⟨#[32]⟩ : ByteArray)) ++ t226).size + (rdOf ByteArray.empty l0 x6_2).size ≤ 9223372036854775807 then (incipitlaw09_WordsParted.l0 kj8 l0 l1 (((x5_2 ++ (⟨#[32]⟩ : ByteArray)) ++ t226) ++ (rdOf ByteArray.empty l0 x6_2)) (wrap64 (x6_2 + 1))) else (none)) else (none)) else (none))) else (none)) else (if 0 ≤ x6_2 then (if x6_2 < (l0.length : Int) then (if (x5_2 ++ (⟨#[32]⟩ : ByteArray)).size + (rdOf ByteArray.empty l0 x6_2).size ≤ 9223372036854775807 then (incipitlaw09_WordsParted.l0 kj8 l0 l1 ((x5_2 ++ (⟨#[32]⟩ : ByteArray)) ++ (rdOf ByteArray.empty l0 x6_2)) (wrap64 (x6_2 + 1))) else (none)) else (none)) else (none))) else (none)) else (if x6_2 < (l1.length : Int) then (if 0 ≤ x6_2 then ((incipitlaw09_gap.f (rd l1 x6_2)).bind fun t230 => (if x5_2.size + t230.size ≤ 9223372036854775807 then (if x6_2 < (l0.length : Int) then (if (x5_2 ++ t230).size + (rdOf ByteArray.empty l0 x6_2).size ≤ 9223372036854775807 then (incipitlaw09_WordsParted.l0 kj8 l0 l1 ((x5_2 ++ t230) ++ (rdOf ByteArray.empty l0 x6_2)) (wrap64 (x6_2 + 1))) else (none)) else (none)) else (none))) else (none)) else (if 0 ≤ x6_2 then (if x6_2 < (l0.length : Int) then (if x5_2.size + (rdOf ByteArray.empty l0 x6_2).size ≤ 9223372036854775807 then (incipitlaw09_WordsParted.l0 kj8 l0 l1 (x5_2 ++ (rdOf ByteArray.empty l0 x6_2)) (wrap64 (x6_2 + 1))) else (none)) else (none)) else (none)))) = some r := by rw [if_neg (show ¬ (false = true) by decide)] at H; exact H
                    clear H
                    have H := H1
                    clear H1
                    by_cases c17 : x6_2 > 0
                    · rw [if_pos c17] at H
                      have c17b0 : decide (0 < x6_2) = true := decide_eq_true c17
                      clear c17
                      by_cases c18 : x5_2.size + 1 ≤ 9223372036854775807
                      · rw [if_pos c18] at H
                        have c18b0 := eq_true c18
                        have c18b1 : decide (x5_2.size + 1 ≤ 9223372036854775807) = true := decide_eq_true c18
                        try have c18b2 : (9223372036854775807 < x5_2.size + 1) = False := eq_false (Nat.not_lt.2 c18)
                        by_cases c19 : x6_2 < (l1.length : Int)
                        · rw [if_pos c19] at H
                          have c19b0 : decide (x6_2 < (l1.length : Int)) = true := decide_eq_true c19
                          clear c19
                          by_cases c20 : 0 ≤ x6_2
                          · rw [if_pos c20] at H
                            have c20b0 : decide (0 ≤ x6_2) = true := decide_eq_true c20
                            clear c20
                            replace H := Option.bind_eq_some_iff.mp H
                            obtain ⟨t226, A210, H⟩ := H
                            replace H : (if (x5_2 ++ (⟨#[32]⟩ : ByteArray)).size + t226.size ≤ 9223372036854775807 then (if x6_2 < (l0.length : Int) then (if ((x5_2 ++ (⟨#[32]⟩ : ByteArray)) ++ t226).size + (rdOf ByteArray.empty l0 x6_2).size ≤ 9223372036854775807 then (incipitlaw09_WordsParted.l0 kj8 l0 l1 (((x5_2 ++ (⟨#[32]⟩ : ByteArray)) ++ t226) ++ (rdOf ByteArray.empty l0 x6_2)) (wrap64 (x6_2 + 1))) else (none)) else (none)) else (none)) = some r := H
                            have A21 := Aside0.mk A210
                            clear A210
                            by_cases c22 : (x5_2 ++ (⟨#[32]⟩ : ByteArray)).size + t226.size ≤ 9223372036854775807
                            · rw [if_pos c22] at H
                              have c22b0 := eq_true c22
                              have c22b1 : decide ((x5_2 ++ (⟨#[32]⟩ : ByteArray)).size + t226.size ≤ 9223372036854775807) = true := decide_eq_true c22
                              try have c22b2 : (9223372036854775807 < (x5_2 ++ (⟨#[32]⟩ : ByteArray)).size + t226.size) = False := eq_false (Nat.not_lt.2 c22)
                              by_cases c23 : x6_2 < (l0.length : Int)
                              · rw [if_pos c23] at H
                                have c23b0 : decide (x6_2 < (l0.length : Int)) = true := decide_eq_true c23
                                clear c23
                                by_cases c24 : ((x5_2 ++ (⟨#[32]⟩ : ByteArray)) ++ t226).size + (rdOf ByteArray.empty l0 x6_2).size ≤ 9223372036854775807
                                · rw [if_pos c24] at H
                                  have c24b0 := eq_true c24
                                  have c24b1 : decide (((x5_2 ++ (⟨#[32]⟩ : ByteArray)) ++ t226).size + (rdOf ByteArray.empty l0 x6_2).size ≤ 9223372036854775807) = true := decide_eq_true c24
                                  try have c24b2 : (9223372036854775807 < ((x5_2 ++ (⟨#[32]⟩ : ByteArray)) ++ t226).size + (rdOf ByteArray.empty l0 x6_2).size) = False := eq_false (Nat.not_lt.2 c24)
                                  have H' := Aside0.mk H
                                  clear H
                                  have p225 : 0 ≤ (x6_2 : Int) := of_decide_eq_true (by first | (with_reducible assumption) | assumption)
                                  have q225 : x6_2 < (l1.length : Int) := of_decide_eq_true (by first | (with_reducible assumption) | assumption)
                                  obtain ⟨ad225, e225, hx225_0⟩ := Kd.at_int HR1.out x6_2 p225 q225
                                  cases e225
                                  replace hx225_0 := (HB.out.cell (World.block_lt_of_cell? w _ hx225_0)).trans hx225_0
                                  replace p225 := eq_true p225
                                  replace q225 := eq_true q225
                                  go_wp2_with (first | (go_at_call 17; (with_reducible refine (incipitlaw09_gap.calls (rd l1 x6_2) t226 _ A21.out).mono ?_); rintro e w25 ⟨rfl, hb⟩; have n0_ := Aside0.mk (below_step (by repeat (first | (with_reducible first | exact HB.out | apply below_alloc | apply pw_below_drewN | apply below_drew1) | exact HB.out)) hb); clear HB; have HB := n0_; clear n0_; (try clear hb); (try clear hb2); (try clear hk); (try clear hi); have p227 : 0 ≤ (x6_2 : Int) := of_decide_eq_true (by first | (with_reducible assumption) | assumption); have q227 : x6_2 < (l0.length : Int) := of_decide_eq_true (by first | (with_reducible assumption) | assumption); obtain ⟨ad227, e227, hx227_0⟩ := Kd.at_string HR0.out x6_2 p227 q227; cases e227; replace hx227_0 := (HB.out.cell (World.block_lt_of_cell? w _ hx227_0)).trans hx227_0; replace p227 := eq_true p227; replace q227 := eq_true q227))
                                  repeat (go_quiet (first | (go_at_call 17; (with_reducible refine (incipitlaw09_gap.calls (rd l1 x6_2) t226 _ A21.out).mono ?_); rintro e w25 ⟨rfl, hb⟩; have n0_ := Aside0.mk (below_step (by repeat (first | (with_reducible first | exact HB.out | apply below_alloc | apply pw_below_drewN | apply below_drew1) | exact HB.out)) hb); clear HB; have HB := n0_; clear n0_; (try clear hb); (try clear hb2); (try clear hk); (try clear hi); have p227 : 0 ≤ (x6_2 : Int) := of_decide_eq_true (by first | (with_reducible assumption) | assumption); have q227 : x6_2 < (l0.length : Int) := of_decide_eq_true (by first | (with_reducible assumption) | assumption); obtain ⟨ad227, e227, hx227_0⟩ := Kd.at_string HR0.out x6_2 p227 q227; cases e227; replace hx227_0 := (HB.out.cell (World.block_lt_of_cell? w _ hx227_0)).trans hx227_0; replace p227 := eq_true p227; replace q227 := eq_true q227)); try go_wp2_with (first | (go_at_call 17; (with_reducible refine (incipitlaw09_gap.calls (rd l1 x6_2) t226 _ A21.out).mono ?_); rintro e w25 ⟨rfl, hb⟩; have n0_ := Aside0.mk (below_step (by repeat (first | (with_reducible first | exact HB.out | apply below_alloc | apply pw_below_drewN | apply below_drew1) | exact HB.out)) hb); clear HB; have HB := n0_; clear n0_; (try clear hb); (try clear hb2); (try clear hk); (try clear hi); have p227 : 0 ≤ (x6_2 : Int) := of_decide_eq_true (by first | (with_reducible assumption) | assumption); have q227 : x6_2 < (l0.length : Int) := of_decide_eq_true (by first | (with_reducible assumption) | assumption); obtain ⟨ad227, e227, hx227_0⟩ := Kd.at_string HR0.out x6_2 p227 q227; cases e227; replace hx227_0 := (HB.out.cell (World.block_lt_of_cell? w _ hx227_0)).trans hx227_0; replace p227 := eq_true p227; replace q227 := eq_true q227)))
                                  go_roundg kj8
                                  case measure => have := HJ2.out; have := HK2.out; have := HJ8.out; omega
                                  case rel => exact ⟨(((x5_2 ++ (⟨#[32]⟩ : ByteArray)) ++ t226) ++ (rdOf ByteArray.empty l0 x6_2)), (wrap64 (x6_2 + 1)), (by first | rfl | (simp; done) | (simp [*]; done)), (by first | rfl | (simp; done) | (simp [*]; done)), H', ⟨by have := HJ2.out; have := HK2.out; have := HJ8.out; omega⟩, ⟨by repeat (first | (with_reducible first | exact HB.out | apply below_alloc | apply pw_below_drewN | apply below_drew1) | exact HB.out)⟩⟩
                                · rw [if_neg c24] at H
                                  exact absurd H (by simp)
                              · rw [if_neg c23] at H
                                exact absurd H (by simp)
                            · rw [if_neg c22] at H
                              exact absurd H (by simp)
                          · rw [if_neg c20] at H
                            exact absurd H (by simp)
                        · rw [if_neg c19] at H
                          have c19b0 : decide (x6_2 < (l1.length : Int)) = false := decide_eq_false c19
                          clear c19
                          by_cases c26 : 0 ≤ x6_2
                          · rw [if_pos c26] at H
                            have c26b0 : decide (0 ≤ x6_2) = true := decide_eq_true c26
                            clear c26
                            by_cases c27 : x6_2 < (l0.length : Int)
                            · rw [if_pos c27] at H
                              have c27b0 : decide (x6_2 < (l0.length : Int)) = true := decide_eq_true c27
                              clear c27
                              by_cases c28 : (x5_2 ++ (⟨#[32]⟩ : ByteArray)).size + (rdOf ByteArray.empty l0 x6_2).size ≤ 9223372036854775807
                              · rw [if_pos c28] at H
                                have c28b0 := eq_true c28
                                have c28b1 : decide ((x5_2 ++ (⟨#[32]⟩ : ByteArray)).size + (rdOf ByteArray.empty l0 x6_2).size ≤ 9223372036854775807) = true := decide_eq_true c28
                                try have c28b2 : (9223372036854775807 < (x5_2 ++ (⟨#[32]⟩ : ByteArray)).size + (rdOf ByteArray.empty l0 x6_2).size) = False := eq_false (Nat.not_lt.2 c28)
                                have H' := Aside0.mk H
                                clear H
                                have p228 : 0 ≤ (x6_2 : Int) := of_decide_eq_true (by first | (with_reducible assumption) | assumption)
                                have q228 : x6_2 < (l0.length : Int) := of_decide_eq_true (by first | (with_reducible assumption) | assumption)
                                obtain ⟨ad228, e228, hx228_0⟩ := Kd.at_string HR0.out x6_2 p228 q228
                                cases e228
                                replace hx228_0 := (HB.out.cell (World.block_lt_of_cell? w _ hx228_0)).trans hx228_0
                                replace p228 := eq_true p228
                                replace q228 := eq_true q228
                                go_wp2
                                repeat (go_quiet (fail); try go_wp2)
                                go_roundg kj8
                                case measure => have := HJ2.out; have := HK2.out; have := HJ8.out; omega
                                case rel => exact ⟨((x5_2 ++ (⟨#[32]⟩ : ByteArray)) ++ (rdOf ByteArray.empty l0 x6_2)), (wrap64 (x6_2 + 1)), (by first | rfl | (simp; done) | (simp [*]; done)), (by first | rfl | (simp; done) | (simp [*]; done)), H', ⟨by have := HJ2.out; have := HK2.out; have := HJ8.out; omega⟩, ⟨by repeat (first | (with_reducible first | exact HB.out | apply below_alloc | apply pw_below_drewN | apply below_drew1) | exact HB.out)⟩⟩
                              · rw [if_neg c28] at H
                                exact absurd H (by simp)
                            · rw [if_neg c27] at H
                              exact absurd H (by simp)
                          · rw [if_neg c26] at H
                            exact absurd H (by simp)
                      · rw [if_neg c18] at H
                        exact absurd H (by simp)
                    · rw [if_neg c17] at H
                      have c17b0 : decide (0 < x6_2) = false := decide_eq_false c17
                      clear c17
                      by_cases c29 : x6_2 < (l1.length : Int)
                      · rw [if_pos c29] at H
                        have c29b0 : decide (x6_2 < (l1.length : Int)) = true := decide_eq_true c29
                        clear c29
                        by_cases c30 : 0 ≤ x6_2
                        · rw [if_pos c30] at H
                          have c30b0 : decide (0 ≤ x6_2) = true := decide_eq_true c30
                          clear c30
                          replace H := Option.bind_eq_some_iff.mp H
                          obtain ⟨t230, A310, H⟩ := H
                          replace H : (if x5_2.size + t230.size ≤ 9223372036854775807 then (if x6_2 < (l0.length : Int) then (if (x5_2 ++ t230).size + (rdOf ByteArray.empty l0 x6_2).size ≤ 9223372036854775807 then (incipitlaw09_WordsParted.l0 kj8 l0 l1 ((x5_2 ++ t230) ++ (rdOf ByteArray.empty l0 x6_2)) (wrap64 (x6_2 + 1))) else (none)) else (none)) else (none)) = some r := H
                          have A31 := Aside0.mk A310
                          clear A310
                          by_cases c32 : x5_2.size + t230.size ≤ 9223372036854775807
                          · rw [if_pos c32] at H
                            have c32b0 := eq_true c32
                            have c32b1 : decide (x5_2.size + t230.size ≤ 9223372036854775807) = true := decide_eq_true c32
                            try have c32b2 : (9223372036854775807 < x5_2.size + t230.size) = False := eq_false (Nat.not_lt.2 c32)
                            by_cases c33 : x6_2 < (l0.length : Int)
                            · rw [if_pos c33] at H
                              have c33b0 : decide (x6_2 < (l0.length : Int)) = true := decide_eq_true c33
                              clear c33
                              by_cases c34 : (x5_2 ++ t230).size + (rdOf ByteArray.empty l0 x6_2).size ≤ 9223372036854775807
                              · rw [if_pos c34] at H
                                have c34b0 := eq_true c34
                                have c34b1 : decide ((x5_2 ++ t230).size + (rdOf ByteArray.empty l0 x6_2).size ≤ 9223372036854775807) = true := decide_eq_true c34
                                try have c34b2 : (9223372036854775807 < (x5_2 ++ t230).size + (rdOf ByteArray.empty l0 x6_2).size) = False := eq_false (Nat.not_lt.2 c34)
                                have H' := Aside0.mk H
                                clear H
                                have p229 : 0 ≤ (x6_2 : Int) := of_decide_eq_true (by first | (with_reducible assumption) | assumption)
                                have q229 : x6_2 < (l1.length : Int) := of_decide_eq_true (by first | (with_reducible assumption) | assumption)
                                obtain ⟨ad229, e229, hx229_0⟩ := Kd.at_int HR1.out x6_2 p229 q229
                                cases e229
                                replace hx229_0 := (HB.out.cell (World.block_lt_of_cell? w _ hx229_0)).trans hx229_0
                                replace p229 := eq_true p229
                                replace q229 := eq_true q229
                                go_wp2_with (first | (go_at_call 17; (with_reducible refine (incipitlaw09_gap.calls (rd l1 x6_2) t230 _ A31.out).mono ?_); rintro e w35 ⟨rfl, hb⟩; have n0_ := Aside0.mk (below_step (by repeat (first | (with_reducible first | exact HB.out | apply below_alloc | apply pw_below_drewN | apply below_drew1) | exact HB.out)) hb); clear HB; have HB := n0_; clear n0_; (try clear hb); (try clear hb2); (try clear hk); (try clear hi); have p231 : 0 ≤ (x6_2 : Int) := of_decide_eq_true (by first | (with_reducible assumption) | assumption); have q231 : x6_2 < (l0.length : Int) := of_decide_eq_true (by first | (with_reducible assumption) | assumption); obtain ⟨ad231, e231, hx231_0⟩ := Kd.at_string HR0.out x6_2 p231 q231; cases e231; replace hx231_0 := (HB.out.cell (World.block_lt_of_cell? w _ hx231_0)).trans hx231_0; replace p231 := eq_true p231; replace q231 := eq_true q231))
                                repeat (go_quiet (first | (go_at_call 17; (with_reducible refine (incipitlaw09_gap.calls (rd l1 x6_2) t230 _ A31.out).mono ?_); rintro e w35 ⟨rfl, hb⟩; have n0_ := Aside0.mk (below_step (by repeat (first | (with_reducible first | exact HB.out | apply below_alloc | apply pw_below_drewN | apply below_drew1) | exact HB.out)) hb); clear HB; have HB := n0_; clear n0_; (try clear hb); (try clear hb2); (try clear hk); (try clear hi); have p231 : 0 ≤ (x6_2 : Int) := of_decide_eq_true (by first | (with_reducible assumption) | assumption); have q231 : x6_2 < (l0.length : Int) := of_decide_eq_true (by first | (with_reducible assumption) | assumption); obtain ⟨ad231, e231, hx231_0⟩ := Kd.at_string HR0.out x6_2 p231 q231; cases e231; replace hx231_0 := (HB.out.cell (World.block_lt_of_cell? w _ hx231_0)).trans hx231_0; replace p231 := eq_true p231; replace q231 := eq_true q231)); try go_wp2_with (first | (go_at_call 17; (with_reducible refine (incipitlaw09_gap.calls (rd l1 x6_2) t230 _ A31.out).mono ?_); rintro e w35 ⟨rfl, hb⟩; have n0_ := Aside0.mk (below_step (by repeat (first | (with_reducible first | exact HB.out | apply below_alloc | apply pw_below_drewN | apply below_drew1) | exact HB.out)) hb); clear HB; have HB := n0_; clear n0_; (try clear hb); (try clear hb2); (try clear hk); (try clear hi); have p231 : 0 ≤ (x6_2 : Int) := of_decide_eq_true (by first | (with_reducible assumption) | assumption); have q231 : x6_2 < (l0.length : Int) := of_decide_eq_true (by first | (with_reducible assumption) | assumption); obtain ⟨ad231, e231, hx231_0⟩ := Kd.at_string HR0.out x6_2 p231 q231; cases e231; replace hx231_0 := (HB.out.cell (World.block_lt_of_cell? w _ hx231_0)).trans hx231_0; replace p231 := eq_true p231; replace q231 := eq_true q231)))
                                go_roundg kj8
                                case measure => have := HJ2.out; have := HK2.out; have := HJ8.out; omega
                                case rel => exact ⟨((x5_2 ++ t230) ++ (rdOf ByteArray.empty l0 x6_2)), (wrap64 (x6_2 + 1)), (by first | rfl | (simp; done) | (simp [*]; done)), (by first | rfl | (simp; done) | (simp [*]; done)), H', ⟨by have := HJ2.out; have := HK2.out; have := HJ8.out; omega⟩, ⟨by repeat (first | (with_reducible first | exact HB.out | apply below_alloc | apply pw_below_drewN | apply below_drew1) | exact HB.out)⟩⟩
                              · rw [if_neg c34] at H
                                exact absurd H (by simp)
                            · rw [if_neg c33] at H
                              exact absurd H (by simp)
                          · rw [if_neg c32] at H
                            exact absurd H (by simp)
                        · rw [if_neg c30] at H
                          exact absurd H (by simp)
                      · rw [if_neg c29] at H
                        have c29b0 : decide (x6_2 < (l1.length : Int)) = false := decide_eq_false c29
                        clear c29
                        by_cases c36 : 0 ≤ x6_2
                        · rw [if_pos c36] at H
                          have c36b0 : decide (0 ≤ x6_2) = true := decide_eq_true c36
                          clear c36
                          by_cases c37 : x6_2 < (l0.length : Int)
                          · rw [if_pos c37] at H
                            have c37b0 : decide (x6_2 < (l0.length : Int)) = true := decide_eq_true c37
                            clear c37
                            by_cases c38 : x5_2.size + (rdOf ByteArray.empty l0 x6_2).size ≤ 9223372036854775807
                            · rw [if_pos c38] at H
                              have c38b0 := eq_true c38
                              have c38b1 : decide (x5_2.size + (rdOf ByteArray.empty l0 x6_2).size ≤ 9223372036854775807) = true := decide_eq_true c38
                              try have c38b2 : (9223372036854775807 < x5_2.size + (rdOf ByteArray.empty l0 x6_2).size) = False := eq_false (Nat.not_lt.2 c38)
                              have H' := Aside0.mk H
                              clear H
                              have p232 : 0 ≤ (x6_2 : Int) := of_decide_eq_true (by first | (with_reducible assumption) | assumption)
                              have q232 : x6_2 < (l0.length : Int) := of_decide_eq_true (by first | (with_reducible assumption) | assumption)
                              obtain ⟨ad232, e232, hx232_0⟩ := Kd.at_string HR0.out x6_2 p232 q232
                              cases e232
                              replace hx232_0 := (HB.out.cell (World.block_lt_of_cell? w _ hx232_0)).trans hx232_0
                              replace p232 := eq_true p232
                              replace q232 := eq_true q232
                              go_wp2
                              repeat (go_quiet (fail); try go_wp2)
                              go_roundg kj8
                              case measure => have := HJ2.out; have := HK2.out; have := HJ8.out; omega
                              case rel => exact ⟨(x5_2 ++ (rdOf ByteArray.empty l0 x6_2)), (wrap64 (x6_2 + 1)), (by first | rfl | (simp; done) | (simp [*]; done)), (by first | rfl | (simp; done) | (simp [*]; done)), H', ⟨by have := HJ2.out; have := HK2.out; have := HJ8.out; omega⟩, ⟨by repeat (first | (with_reducible first | exact HB.out | apply below_alloc | apply pw_below_drewN | apply below_drew1) | exact HB.out)⟩⟩
                            · rw [if_neg c38] at H
                              exact absurd H (by simp)
                          · rw [if_neg c37] at H
                            exact absurd H (by simp)
                        · rw [if_neg c36] at H
                          exact absurd H (by simp)
            · rw [if_neg c8] at H
              have c8b0 : decide (x6_2 < (l0.length : Int)) = false := decide_eq_false c8
              clear c8
              replace H := Option.bind_eq_some_iff.mp H
              obtain ⟨⟨t233, t234⟩, A390, H⟩ := H
              replace H : (if t234 = 0 then (incipitlaw09_WordsParted.j3 k2 l0 t233 ((t233.length : Int) != (l0.length : Int))) else (incipitlaw09_WordsParted.j3 k2 l0 t233 true)) = some r := H
              have A39 := Aside0.mk A390
              clear A390
              have HC40 := Aside0.mk H
              clear H
              go_upto_region 15 with (first | (go_at_call 11; (refine (words_Words.calls x5_2 _ _ ([] : List ByteArray) t233 t234 _ ?side1 ?side2 ?side3 A39.out).mono ?_); (case side1 => exact Kd.C_nil _ _); (case side2 => exact Nat.le_refl _); (case side3 => repeat (first | exact (Tabs.below HLT.out HB.out) | (with_reducible refine Tabs.alloc ?_ _) | (with_reducible refine Tabs.drewN ?_ _) | (with_reducible refine Tabs.drew ?_))); rintro e w41 ⟨v235, rfl, ho0, hb⟩; have n0_ := Aside0.mk (Kd.R_lower ho0 (below_size (by repeat (first | (with_reducible first | exact HB.out | apply below_alloc | apply pw_below_drewN | apply below_drew1) | exact HB.out)))); have n1_ := Aside0.mk (below_step (by repeat (first | (with_reducible first | exact HB.out | apply below_alloc | apply pw_below_drewN | apply below_drew1) | exact HB.out)) hb); clear HB; have HO236 := n0_; have HB := n1_; clear n0_ n1_; (try clear hb); (try clear hb2); (try clear hk); (try clear hi); (try clear ho0)))
              repeat (go_quiet (first | (go_at_call 11; (refine (words_Words.calls x5_2 _ _ ([] : List ByteArray) t233 t234 _ ?side1 ?side2 ?side3 A39.out).mono ?_); (case side1 => exact Kd.C_nil _ _); (case side2 => exact Nat.le_refl _); (case side3 => repeat (first | exact (Tabs.below HLT.out HB.out) | (with_reducible refine Tabs.alloc ?_ _) | (with_reducible refine Tabs.drewN ?_ _) | (with_reducible refine Tabs.drew ?_))); rintro e w41 ⟨v235, rfl, ho0, hb⟩; have n0_ := Aside0.mk (Kd.R_lower ho0 (below_size (by repeat (first | (with_reducible first | exact HB.out | apply below_alloc | apply pw_below_drewN | apply below_drew1) | exact HB.out)))); have n1_ := Aside0.mk (below_step (by repeat (first | (with_reducible first | exact HB.out | apply below_alloc | apply pw_below_drewN | apply below_drew1) | exact HB.out)) hb); clear HB; have HO236 := n0_; have HB := n1_; clear n0_ n1_; (try clear hb); (try clear hb2); (try clear hk); (try clear hi); (try clear ho0))); go_upto_region 15 with (first | (go_at_call 11; (refine (words_Words.calls x5_2 _ _ ([] : List ByteArray) t233 t234 _ ?side1 ?side2 ?side3 A39.out).mono ?_); (case side1 => exact Kd.C_nil _ _); (case side2 => exact Nat.le_refl _); (case side3 => repeat (first | exact (Tabs.below HLT.out HB.out) | (with_reducible refine Tabs.alloc ?_ _) | (with_reducible refine Tabs.drewN ?_ _) | (with_reducible refine Tabs.drew ?_))); rintro e w41 ⟨v235, rfl, ho0, hb⟩; have n0_ := Aside0.mk (Kd.R_lower ho0 (below_size (by repeat (first | (with_reducible first | exact HB.out | apply below_alloc | apply pw_below_drewN | apply below_drew1) | exact HB.out)))); have n1_ := Aside0.mk (below_step (by repeat (first | (with_reducible first | exact HB.out | apply below_alloc | apply pw_below_drewN | apply below_drew1) | exact HB.out)) hb); clear HB; have HO236 := n0_; have HB := n1_; clear n0_ n1_; (try clear hb); (try clear hb2); (try clear hk); (try clear hi); (try clear ho0))))
              (try simp only [Act.put, List.setIfInBounds_toArray, List.set_cons_zero, List.set_cons_succ])
              go_cut [74] (fun v74 wc => ∃ (kq : Nat) (x74_39 : Bool), v74 = .bool x74_39 ∧ Aside0 (incipitlaw09_WordsParted.j3 kq l0 t233 x74_39 = some r) ∧ Aside0 (kq ≤ k2) ∧ Aside0 (Kd.R k36 36 wc w.heap.size (fun _ => True) v235 t233) ∧ Aside0 (Below w.heap.size w wc))
              case first =>
                have H := HC40.out
                clear HC40
                by_cases c42 : t234 = 0
                · rw [if_pos c42] at H
                  have c42b0 : (t234 == 0) = true := beq_iff_eq.mpr c42
                  have c42b1 : (t234 != 0) = false := bne_eq_false_iff_eq.mpr c42
                  clear c42
                  (first | rw [c42b0] | (simp only [i64_w, i32_w]; rw [c42b0]) | skip)
                  have H' := Aside0.mk H
                  clear H
                  obtain ⟨Ao43, co43, eo43⟩ := Kd.R_slice HO236.out
                  subst eo43
                  go_wp2
                  repeat (go_quiet (fail); try go_wp2)
                  go_meet
                  case rel => exact ⟨_, (((t233.length : Int) != (l0.length : Int))), (by first | rfl | (simp; done) | (simp [*]; done)), H', ⟨by have := HJ2.out; have := HK2.out; first | omega | exact Nat.le_refl _⟩, ⟨by (with_reducible repeat (first | apply Kd.R_alloc | apply Kd.R_drewN | apply Kd.R_drew)); exact HO236.out⟩, ⟨by repeat (first | (with_reducible first | exact HB.out | apply below_alloc | apply pw_below_drewN | apply below_drew1) | exact HB.out)⟩⟩
                · rw [if_neg c42] at H
                  have c42b0 : (t234 == 0) = false := beq_eq_false_iff_ne.mpr c42
                  have c42b1 : (t234 != 0) = true := bne_iff_ne.mpr c42
                  (first | rw [c42b0] | (simp only [i64_w, i32_w]; rw [c42b0]) | skip)
                  have H' := Aside0.mk H
                  clear H
                  go_wp2
                  repeat (go_quiet (fail); try go_wp2)
                  go_meet
                  case rel => exact ⟨_, (true), (by first | rfl | (simp; done) | (simp [*]; done)), H', ⟨by have := HJ2.out; have := HK2.out; first | omega | exact Nat.le_refl _⟩, ⟨by (with_reducible repeat (first | apply Kd.R_alloc | apply Kd.R_drewN | apply Kd.R_drew)); exact HO236.out⟩, ⟨by repeat (first | (with_reducible first | exact HB.out | apply below_alloc | apply pw_below_drewN | apply below_drew1) | exact HB.out)⟩⟩
              case rest =>
                clear HC40
                try clear c1
                try clear c2
                try clear p2
                try clear q2
                try clear hx2
                try clear c3
                try clear c4
                try clear c4b0
                try clear c4b1
                try clear c5
                try clear p6
                try clear c8
                try clear c8b0
                try clear c10
                try clear c10b0
                try clear c11
                try clear c11b0
                try clear c11b1
                try clear c14
                try clear c17
                try clear c17b0
                try clear c18
                try clear c18b0
                try clear c18b1
                try clear c18b2
                try clear c19
                try clear c19b0
                try clear c20
                try clear c20b0
                try clear c22
                try clear c22b0
                try clear c22b1
                try clear c22b2
                try clear p22
                try clear q22
                try clear hx22
                try clear c23
                try clear c23b0
                try clear p23
                try clear q23
                try clear hx23
                try clear c24
                try clear c24b0
                try clear c24b1
                try clear c24b2
                try clear c26
                try clear c26b0
                try clear c27
                try clear c27b0
                try clear c28
                try clear c28b0
                try clear c28b1
                try clear c28b2
                try clear c29
                try clear c29b0
                try clear c30
                try clear c30b0
                try clear c32
                try clear c32b0
                try clear c32b1
                try clear c32b2
                try clear c33
                try clear c33b0
                try clear c34
                try clear c34b0
                try clear c34b1
                try clear c34b2
                try clear c36
                try clear c36b0
                try clear c37
                try clear c37b0
                try clear c38
                try clear c38b0
                try clear c38b1
                try clear c38b2
                try clear c42
                try clear c42b0
                try clear c42b1
                try clear hx221_0
                try clear hx222_0
                try clear hx225_0
                try clear hx227_0
                try clear hx228_0
                try clear hx229_0
                try clear hx231_0
                try clear hx232_0
                try clear p2
                try clear p221
                try clear p222
                try clear p225
                try clear p227
                try clear p228
                try clear p229
                try clear p231
                try clear p232
                try clear q2
                try clear q221
                try clear q222
                try clear q225
                try clear q227
                try clear q228
                try clear q229
                try clear q231
                try clear q232
                obtain ⟨kq, x74_39, rfl, HA, HJ39, HO_7, HB⟩ := hcut
                cases kq with
                | zero => exact absurd HA.out (by simp [incipitlaw09_WordsParted.j3])
                | succ kj39 =>
                  have H := HA.out
                  clear HA
                  simp only [incipitlaw09_WordsParted.j3] at H
                  by_cases c44 : x74_39 = true
                  · subst c44
                    have H1 : (some false) = some r := by rw [if_pos rfl] at H; exact H
                    clear H
                    have H := H1
                    clear H1
                    obtain rfl := Option.some.inj H
                    go_wp2
                    repeat (go_quiet (fail); try go_wp2)
                    go_ret
                    exact ⟨by first | rfl | (simp [errW_none, errW_some] <;> rfl) | (simp [*, errW_none, errW_some] <;> rfl), by repeat (first | (with_reducible first | exact HB.out | apply below_alloc | apply pw_below_drewN | apply below_drew1) | exact HB.out)⟩
                  · replace c44 := Bool.eq_false_iff.mpr c44
                    subst c44
                    have H1 : (incipitlaw09_WordsParted.l1 kj39 l0 t233 0) = some r := by rw [if_neg (show ¬ (false = true) by decide)] at H; exact H
                    clear H
                    have H := H1
                    clear H1
                    have H' := Aside0.mk H
                    clear H
                    go_wp2
                    repeat (go_quiet (fail); try go_wp2)
                    go_loopg [9] kj39 (fun kq v9 w' => ∃ (x9_4 : Int), v9 = .int .i64 x9_4 ∧ Aside0 (incipitlaw09_WordsParted.l1 kq l0 t233 x9_4 = some r) ∧ Aside0 (kq ≤ kj39) ∧ Aside0 (Kd.R k36 36 w' w.heap.size (fun _ => True) v235 t233) ∧ Aside0 (Below w.heap.size w w'))
                    case atStart => exact ⟨(0), (by first | rfl | (simp; done) | (simp [*]; done)), H', ⟨Nat.le_refl _⟩, ⟨by (with_reducible repeat (first | apply Kd.R_alloc | apply Kd.R_drewN | apply Kd.R_drew)); exact HO_7.out⟩, ⟨by repeat (first | (with_reducible first | exact HB.out | apply below_alloc | apply pw_below_drewN | apply below_drew1) | exact HB.out)⟩⟩
                    case round =>
                      clear H'
                      try clear c1
                      try clear c2
                      try clear p2
                      try clear q2
                      try clear hx2
                      try clear c3
                      try clear c4
                      try clear c4b0
                      try clear c4b1
                      try clear c5
                      try clear p6
                      try clear c8
                      try clear c8b0
                      try clear c10
                      try clear c10b0
                      try clear c11
                      try clear c11b0
                      try clear c11b1
                      try clear c14
                      try clear c17
                      try clear c17b0
                      try clear c18
                      try clear c18b0
                      try clear c18b1
                      try clear c18b2
                      try clear c19
                      try clear c19b0
                      try clear c20
                      try clear c20b0
                      try clear c22
                      try clear c22b0
                      try clear c22b1
                      try clear c22b2
                      try clear p22
                      try clear q22
                      try clear hx22
                      try clear c23
                      try clear c23b0
                      try clear p23
                      try clear q23
                      try clear hx23
                      try clear c24
                      try clear c24b0
                      try clear c24b1
                      try clear c24b2
                      try clear c26
                      try clear c26b0
                      try clear c27
                      try clear c27b0
                      try clear c28
                      try clear c28b0
                      try clear c28b1
                      try clear c28b2
                      try clear c29
                      try clear c29b0
                      try clear c30
                      try clear c30b0
                      try clear c32
                      try clear c32b0
                      try clear c32b1
                      try clear c32b2
                      try clear c33
                      try clear c33b0
                      try clear c34
                      try clear c34b0
                      try clear c34b1
                      try clear c34b2
                      try clear c36
                      try clear c36b0
                      try clear c37
                      try clear c37b0
                      try clear c38
                      try clear c38b0
                      try clear c38b1
                      try clear c38b2
                      try clear c42
                      try clear c42b0
                      try clear c42b1
                      try clear c44
                      try clear hx221_0
                      try clear hx222_0
                      try clear hx225_0
                      try clear hx227_0
                      try clear hx228_0
                      try clear hx229_0
                      try clear hx231_0
                      try clear hx232_0
                      try clear p2
                      try clear p22
                      try clear p221
                      try clear p222
                      try clear p225
                      try clear p227
                      try clear p228
                      try clear p229
                      try clear p23
                      try clear p231
                      try clear p232
                      try clear p6
                      try clear q2
                      try clear q22
                      try clear q221
                      try clear q222
                      try clear q225
                      try clear q227
                      try clear q228
                      try clear q229
                      try clear q23
                      try clear q231
                      try clear q232
                      obtain ⟨x9_4, rfl, HA, HK4, HO_7, HB⟩ := hrel
                      cases gk with
                      | zero => exact absurd HA.out (by simp [incipitlaw09_WordsParted.l1])
                      | succ k4 =>
                        have H := HA.out
                        clear HA
                        simp only [incipitlaw09_WordsParted.l1] at H
                        by_cases c45 : x9_4 < (t233.length : Int)
                        · rw [if_pos c45] at H
                          have c45b0 : decide (x9_4 < (t233.length : Int)) = true := decide_eq_true c45
                          clear c45
                          by_cases c46 : 0 ≤ x9_4
                          · rw [if_pos c46] at H
                            have c46b0 : decide (0 ≤ x9_4) = true := decide_eq_true c46
                            clear c46
                            by_cases c47 : x9_4 < (l0.length : Int)
                            · rw [if_pos c47] at H
                              have c47b0 : decide (x9_4 < (l0.length : Int)) = true := decide_eq_true c47
                              clear c47
                              by_cases c48 : ((rd_T36 t233 x9_4).f0).toList = (rdOf ByteArray.empty l0 x9_4).toList
                              · rw [if_pos c48] at H
                                have c48b0 : (((rd_T36 t233 x9_4).f0).toList == (rdOf ByteArray.empty l0 x9_4).toList) = true := beq_iff_eq.mpr c48
                                have c48b1 : (((rd_T36 t233 x9_4).f0).toList != (rdOf ByteArray.empty l0 x9_4).toList) = false := bne_eq_false_iff_eq.mpr c48
                                clear c48
                                by_cases c49 : ((rd_T36 t233 x9_4).f1) = x9_4
                                · rw [if_pos c49] at H
                                  have c49b0 : (((rd_T36 t233 x9_4).f1) == x9_4) = true := beq_iff_eq.mpr c49
                                  have c49b1 : (((rd_T36 t233 x9_4).f1) != x9_4) = false := bne_eq_false_iff_eq.mpr c49
                                  clear c49
                                  have H' := Aside0.mk H
                                  clear H
                                  obtain ⟨Ao50, co50, eo50⟩ := Kd.R_slice HO_7.out
                                  subst eo50
                                  have p237 : 0 ≤ (x9_4 : Int) := of_decide_eq_true (by first | (with_reducible assumption) | assumption)
                                  have q237 : x9_4 < (t233.length : Int) := of_decide_eq_true (by first | (with_reducible assumption) | assumption)
                                  obtain ⟨ad237, e237, hx237_0, hx237_1⟩ := at_T36 (Kd.R_reads' HO_7.out).2.2 x9_4 p237 q237
                                  cases e237
                                  replace p237 := eq_true p237
                                  replace q237 := eq_true q237
                                  have p238 : 0 ≤ (x9_4 : Int) := of_decide_eq_true (by first | (with_reducible assumption) | assumption)
                                  have q238 : x9_4 < (l0.length : Int) := of_decide_eq_true (by first | (with_reducible assumption) | assumption)
                                  obtain ⟨ad238, e238, hx238_0⟩ := Kd.at_string HR0.out x9_4 p238 q238
                                  cases e238
                                  replace hx238_0 := (HB.out.cell (World.block_lt_of_cell? w _ hx238_0)).trans hx238_0
                                  replace p238 := eq_true p238
                                  replace q238 := eq_true q238
                                  have p239 : 0 ≤ (x9_4 : Int) := of_decide_eq_true (by first | (with_reducible assumption) | assumption)
                                  have q239 : x9_4 < (t233.length : Int) := of_decide_eq_true (by first | (with_reducible assumption) | assumption)
                                  obtain ⟨ad239, e239, hx239_0, hx239_1⟩ := at_T36 (Kd.R_reads' HO_7.out).2.2 x9_4 p239 q239
                                  obtain rfl : ad237 = ad239 := (by injection e239)
                                  replace p239 := eq_true p239
                                  replace q239 := eq_true q239
                                  go_wp2
                                  repeat (go_quiet (fail); try go_wp2)
                                  go_roundg k4
                                  case measure => have := HJ2.out; have := HK2.out; have := HJ39.out; have := HK4.out; omega
                                  case rel => exact ⟨(wrap64 (x9_4 + 1)), (by first | rfl | (simp; done) | (simp [*]; done)), H', ⟨by have := HJ2.out; have := HK2.out; have := HJ39.out; have := HK4.out; omega⟩, ⟨by (with_reducible repeat (first | apply Kd.R_alloc | apply Kd.R_drewN | apply Kd.R_drew)); exact HO_7.out⟩, ⟨by repeat (first | (with_reducible first | exact HB.out | apply below_alloc | apply pw_below_drewN | apply below_drew1) | exact HB.out)⟩⟩
                                · rw [if_neg c49] at H
                                  have c49b0 : (((rd_T36 t233 x9_4).f1) == x9_4) = false := beq_eq_false_iff_ne.mpr c49
                                  have c49b1 : (((rd_T36 t233 x9_4).f1) != x9_4) = true := bne_iff_ne.mpr c49
                                  obtain rfl := Option.some.inj H
                                  obtain ⟨Ao51, co51, eo51⟩ := Kd.R_slice HO_7.out
                                  subst eo51
                                  have p237 : 0 ≤ (x9_4 : Int) := of_decide_eq_true (by first | (with_reducible assumption) | assumption)
                                  have q237 : x9_4 < (t233.length : Int) := of_decide_eq_true (by first | (with_reducible assumption) | assumption)
                                  obtain ⟨ad237, e237, hx237_0, hx237_1⟩ := at_T36 (Kd.R_reads' HO_7.out).2.2 x9_4 p237 q237
                                  cases e237
                                  replace p237 := eq_true p237
                                  replace q237 := eq_true q237
                                  have p238 : 0 ≤ (x9_4 : Int) := of_decide_eq_true (by first | (with_reducible assumption) | assumption)
                                  have q238 : x9_4 < (l0.length : Int) := of_decide_eq_true (by first | (with_reducible assumption) | assumption)
                                  obtain ⟨ad238, e238, hx238_0⟩ := Kd.at_string HR0.out x9_4 p238 q238
                                  cases e238
                                  replace hx238_0 := (HB.out.cell (World.block_lt_of_cell? w _ hx238_0)).trans hx238_0
                                  replace p238 := eq_true p238
                                  replace q238 := eq_true q238
                                  have p239 : 0 ≤ (x9_4 : Int) := of_decide_eq_true (by first | (with_reducible assumption) | assumption)
                                  have q239 : x9_4 < (t233.length : Int) := of_decide_eq_true (by first | (with_reducible assumption) | assumption)
                                  obtain ⟨ad239, e239, hx239_0, hx239_1⟩ := at_T36 (Kd.R_reads' HO_7.out).2.2 x9_4 p239 q239
                                  obtain rfl : ad237 = ad239 := (by injection e239)
                                  replace p239 := eq_true p239
                                  replace q239 := eq_true q239
                                  go_wp2
                                  repeat (go_quiet (fail); try go_wp2)
                                  go_ret
                                  exact ⟨by first | rfl | (simp [errW_none, errW_some] <;> rfl) | (simp [*, errW_none, errW_some] <;> rfl), by repeat (first | (with_reducible first | exact HB.out | apply below_alloc | apply pw_below_drewN | apply below_drew1) | exact HB.out)⟩
                              · rw [if_neg c48] at H
                                have c48b0 : (((rd_T36 t233 x9_4).f0).toList == (rdOf ByteArray.empty l0 x9_4).toList) = false := beq_eq_false_iff_ne.mpr c48
                                have c48b1 : (((rd_T36 t233 x9_4).f0).toList != (rdOf ByteArray.empty l0 x9_4).toList) = true := bne_iff_ne.mpr c48
                                obtain rfl := Option.some.inj H
                                obtain ⟨Ao52, co52, eo52⟩ := Kd.R_slice HO_7.out
                                subst eo52
                                have p237 : 0 ≤ (x9_4 : Int) := of_decide_eq_true (by first | (with_reducible assumption) | assumption)
                                have q237 : x9_4 < (t233.length : Int) := of_decide_eq_true (by first | (with_reducible assumption) | assumption)
                                obtain ⟨ad237, e237, hx237_0, hx237_1⟩ := at_T36 (Kd.R_reads' HO_7.out).2.2 x9_4 p237 q237
                                cases e237
                                replace p237 := eq_true p237
                                replace q237 := eq_true q237
                                have p238 : 0 ≤ (x9_4 : Int) := of_decide_eq_true (by first | (with_reducible assumption) | assumption)
                                have q238 : x9_4 < (l0.length : Int) := of_decide_eq_true (by first | (with_reducible assumption) | assumption)
                                obtain ⟨ad238, e238, hx238_0⟩ := Kd.at_string HR0.out x9_4 p238 q238
                                cases e238
                                replace hx238_0 := (HB.out.cell (World.block_lt_of_cell? w _ hx238_0)).trans hx238_0
                                replace p238 := eq_true p238
                                replace q238 := eq_true q238
                                go_wp2
                                repeat (go_quiet (fail); try go_wp2)
                                go_ret
                                exact ⟨by first | rfl | (simp [errW_none, errW_some] <;> rfl) | (simp [*, errW_none, errW_some] <;> rfl), by repeat (first | (with_reducible first | exact HB.out | apply below_alloc | apply pw_below_drewN | apply below_drew1) | exact HB.out)⟩
                            · rw [if_neg c47] at H
                              exact absurd H (by simp)
                          · rw [if_neg c46] at H
                            exact absurd H (by simp)
                        · rw [if_neg c45] at H
                          have c45b0 : decide (x9_4 < (t233.length : Int)) = false := decide_eq_false c45
                          clear c45
                          replace H := Option.bind_eq_some_iff.mp H
                          obtain ⟨t240, A530, H⟩ := H
                          replace H : (some t240) = some r := H
                          have A53 := Aside0.mk A530
                          clear A530
                          obtain rfl := Option.some.inj H
                          obtain ⟨Ao54, co54, eo54⟩ := Kd.R_slice HO_7.out
                          subst eo54
                          go_wp2_with (first | (go_at_call 10; (with_reducible refine (incipitlaw09_awake.calls  t240 _ ?side1 A53.out).mono ?_); (case side1 => repeat (first | exact (Tabs.below HLT.out HB.out) | (with_reducible refine Tabs.alloc ?_ _) | (with_reducible refine Tabs.drewN ?_ _) | (with_reducible refine Tabs.drew ?_))); rintro e w55 ⟨rfl, hb⟩; have n0_ := Aside0.mk (Kd.R_below (by (with_reducible repeat (first | apply Kd.R_alloc | apply Kd.R_drewN | apply Kd.R_drew)); exact HO_7.out) hb); have n1_ := Aside0.mk (below_step (by repeat (first | (with_reducible first | exact HB.out | apply below_alloc | apply pw_below_drewN | apply below_drew1) | exact HB.out)) hb); clear HO_7; clear HB; have HO_7 := n0_; have HB := n1_; clear n0_ n1_; (try clear hb); (try clear hb2); (try clear hk); (try clear hi)))
                          repeat (go_quiet (first | (go_at_call 10; (with_reducible refine (incipitlaw09_awake.calls  t240 _ ?side1 A53.out).mono ?_); (case side1 => repeat (first | exact (Tabs.below HLT.out HB.out) | (with_reducible refine Tabs.alloc ?_ _) | (with_reducible refine Tabs.drewN ?_ _) | (with_reducible refine Tabs.drew ?_))); rintro e w55 ⟨rfl, hb⟩; have n0_ := Aside0.mk (Kd.R_below (by (with_reducible repeat (first | apply Kd.R_alloc | apply Kd.R_drewN | apply Kd.R_drew)); exact HO_7.out) hb); have n1_ := Aside0.mk (below_step (by repeat (first | (with_reducible first | exact HB.out | apply below_alloc | apply pw_below_drewN | apply below_drew1) | exact HB.out)) hb); clear HO_7; clear HB; have HO_7 := n0_; have HB := n1_; clear n0_ n1_; (try clear hb); (try clear hb2); (try clear hk); (try clear hi))); try go_wp2_with (first | (go_at_call 10; (with_reducible refine (incipitlaw09_awake.calls  t240 _ ?side1 A53.out).mono ?_); (case side1 => repeat (first | exact (Tabs.below HLT.out HB.out) | (with_reducible refine Tabs.alloc ?_ _) | (with_reducible refine Tabs.drewN ?_ _) | (with_reducible refine Tabs.drew ?_))); rintro e w55 ⟨rfl, hb⟩; have n0_ := Aside0.mk (Kd.R_below (by (with_reducible repeat (first | apply Kd.R_alloc | apply Kd.R_drewN | apply Kd.R_drew)); exact HO_7.out) hb); have n1_ := Aside0.mk (below_step (by repeat (first | (with_reducible first | exact HB.out | apply below_alloc | apply pw_below_drewN | apply below_drew1) | exact HB.out)) hb); clear HO_7; clear HB; have HO_7 := n0_; have HB := n1_; clear n0_ n1_; (try clear hb); (try clear hb2); (try clear hk); (try clear hi))))
                          go_ret
                          exact ⟨by first | rfl | (simp [errW_none, errW_some] <;> rfl) | (simp [*, errW_none, errW_some] <;> rfl), by repeat (first | (with_reducible first | exact HB.out | apply below_alloc | apply pw_below_drewN | apply below_drew1) | exact HB.out)⟩

/-- THE ONE PURE STATEMENT of incipitlaw09_WordsParted: yours. -/
def incipitlaw09_WordsParted.Pure : Prop := ∀ (l0 : List ByteArray) (l1 : List Int), l0.length ≤ 9223372036854775807 → (∀ y0 ∈ l0, y0.size ≤ maxLen) → l1.length ≤ maxLen → l1.length * 8 ≤ 140737488351232 → (∀ x ∈ l1, (Lit.int .i64 x).wf = true) → ∃ k, incipitlaw09_WordsParted.f k l0 l1 = some true
theorem incipitlaw09_WordsParted.walk (P : incipitlaw09_WordsParted.Pure) (A0 : Option Addr) (c0 : Nat) (l0 : List ByteArray) (a1 : Option Addr) (len1 cap1 : Nat) (z1 : List Int) (w : World) (hr0 : Kd.C Kd.string w A0 l0.length l0) (hc0 : l0.length ≤ c0) (hw0 : (∀ y0 ∈ l0, y0.size ≤ maxLen)) (w1 : (a1 = none ∧ len1 = 0 ∧ cap1 = 0 ∧ z1 = []) ∨ ∃ x, a1 = some x ∧ len1 ≤ cap1 ∧ cap1 ≤ maxLen ∧ z1.length = cap1 ∧ (∀ i, i < z1.length → w.cell? (x.add i) = some (.int .i64 (z1.getD i 0))) ∧ ∀ n ∈ z1, (Lit.int .i64 n).wf = true) (y1 : len1 * 8 ≤ 140737488351232) (hT : Tabs w) :
    Calls Tryd.prog 5 #[.slice A0 l0.length c0, .slice a1 len1 cap1] w fun e w' => e = .returned (.bool true) ∧ Below w.heap.size w w' := by
  obtain ⟨l1, rfl, hr1, hm1, hw1, hc1⟩ := ReadsInt.ofRowC w1
  obtain ⟨k, h⟩ := P l0 l1 hr0.2.1 hw0 hm1 y1 hw1
  refine (incipitlaw09_WordsParted.calls k _ _ l0 _ _ l1 true w hr0 hc0 (Kd.C_of_reads (d := (0 : Int)) (h1 := fun _ => rfl) hr1) hc1 hT h).mono ?_
  rintro e w' ⟨rfl, hd⟩
  exact ⟨rfl, hd⟩

end Go.Proofs.YtjeomkojpkienaaDoorZ.ZA
