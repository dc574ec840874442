-- Laid by a program of this session (a turned copy of the print).
import Derived.Test.YtjeomkojpkienaaDoorZBx0
import Derived.Test.YtjeomkojpkienaaDoorZBx1
import Derived.Test.YtjeomkojpkienaaDoorZBx3
namespace Go.Proofs.YtjeomkojpkienaaDoorZ.ZB
open Go.RowKit Go.Proofs.YtjeomkojpkienaaDoorW.PrintWords Go.Proofs.YtjeomkojpkienaaDoorW.PrintLast Go.Proofs.YtjeomkojpkienaaDoorW.PrintMore
attribute [local go_sem] max2_int min2_int max_two min_two max_three min_three max_four min_four   -- for this text's walks alone
set_option linter.unusedVariables false
set_option linter.unusedSimpArgs false

attribute [local go_sem high] eqA36
/-! ### incipitlaw09_awake: function 10 -/
section
open Go.Proofs.YtjeomkojpkienaaDoor hiding below_then below_size hid hidden add_plain
def incipitlaw09_awake.f : Option Bool := some true
theorem C_texts {w : World} {A : Option Addr} {n c : Nat} {xs : List ByteArray} (h : RV w (.slice A n c) n 1 (ss xs)) : Kd.C Kd.string w A n xs ∧ n ≤ c := by
  obtain ⟨hl, A', c', e, h1, h2, h3⟩ := h
  simp only [Value.slice.injEq] at e
  obtain ⟨rfl, _, rfl⟩ := e
  have hxl : xs.length = n := by simpa [ss] using hl
  refine ⟨⟨hxl, Nat.le_trans h1 (Nat.le_trans h2 (by decide)), fun hn => ?_⟩, h1⟩
  obtain ⟨b, o, rfl, hc⟩ := h3 (by intro hx; rw [hx] at hl; simp at hl; omega)
  refine ⟨_, rfl, fun j p hj => ⟨[.string p], rfl, rfl, fun i u hu => ?_⟩⟩
  have hi : i = 0 := by have := (List.getElem?_eq_some_iff.1 hu).1; simp at this; exact this
  subst hi
  obtain rfl : Value.string p = u := by simpa using hu
  rw [Go.Proofs.YtjeomkojpkienaaDoor.add_plain, Nat.add_zero, show j * Kd.string.sz = j from Nat.mul_one j]
  exact hc j _ (by simp [ss, hj])
theorem texts_new (w : World) (xs : List ByteArray) (e : TypeId) (f : Nat × Nat) (hm : xs.length ≤ maxLen) : Kd.C Kd.string (w.alloc (.cells (xs.map Value.string).toArray e f)) (some ⟨w.heap.size, 0, none⟩) xs.length xs :=
  (C_texts (c := xs.length) (RV_new w (ss xs) e xs.length 1 f (by simp [ss]) hm)).1
theorem incipitlaw09_awake.e1 : words_Words.f ⟨#[84, 104, 101, 32, 99, 97, 116, 44, 32, 116, 104, 101, 32, 67, 65, 84, 45, 51, 33]⟩ [⟨#[116, 104, 101]⟩] = some ([⟨⟨#[99, 97, 116]⟩, 1⟩, ⟨⟨#[99, 97, 116]⟩, 3⟩, ⟨⟨#[51]⟩, 4⟩], 0) := by kernel_rfl
theorem incipitlaw09_awake.e2 : words_Words.f ⟨#[255]⟩ [] = some ([], 8) := by kernel_rfl
theorem incipitlaw09_awake.e3 : words_One.f ⟨#[99, 97, 116]⟩ [] = some true := by kernel_rfl
theorem incipitlaw09_awake.e4 : words_One.f ⟨#[67, 97, 116]⟩ [] = some false := by kernel_rfl
theorem incipitlaw09_awake.e5 : words_One.f ⟨#[97, 32, 99, 97, 116]⟩ [] = some false := by kernel_rfl
theorem incipitlaw09_awake.e6 : words_One.f ⟨#[116, 104, 101]⟩ [⟨#[116, 104, 101]⟩] = some false := by kernel_rfl
theorem incipitlaw09_awake.e7 : words_MayStops.f 9 [⟨#[97]⟩, ⟨#[116, 104, 101]⟩] = some true := by kernel_rfl
theorem incipitlaw09_awake.e8 : words_MayStops.f 9 [⟨#[116, 104, 101]⟩, ⟨#[97]⟩] = some false := by kernel_rfl
theorem incipitlaw09_awake.e9 : words_MayStops.f 9 [⟨#[97, 32, 98]⟩] = some false := by kernel_rfl
set_option maxHeartbeats 4000000 in
set_option maxRecDepth 100000 in
theorem incipitlaw09_awake.calls (r : Bool) (w : World) (hT : Tabs w) (h : incipitlaw09_awake.f = some r) :
    Calls Tryd.prog 10 #[] w fun e w' => e = .returned (.bool r) ∧ Below w.heap.size w w' := by
  obtain rfl := Option.some.inj h
  clear h
  go_enter Tryd.func10, Tryd.ntmps10
  go_wp2_with fail
  refine (words_Words.calls _ _ _ [⟨#[116, 104, 101]⟩] _ _ _ (texts_new w _ _ _ (by decide)) (Nat.le_refl _) (hT.alloc _) incipitlaw09_awake.e1).mono ?_
  rintro e w1 ⟨v1, rfl, hR1, hb1⟩
  go_wp2_with fail
  refine (words_Words.calls _ _ _ [] _ _ _ (Kd.C_nil _ _) (Nat.le_refl _) ((hT.alloc _).below hb1) incipitlaw09_awake.e2).mono ?_
  rintro e w2 ⟨v2, rfl, hR2, hb2⟩
  obtain ⟨A, c, rfl, hc, hC⟩ := Kd.R_reads hR1
  replace hC := Kd.C_below hC hb2
  obtain ⟨ad, e0, g00, g01⟩ := at_T36 hC 0 (by decide) (by decide)
  subst e0
  obtain ⟨ad1, e1, g10, g11⟩ := at_T36 hC 1 (by decide) (by decide)
  cases e1
  obtain ⟨ad2, e2, g20, g21⟩ := at_T36 hC 2 (by decide) (by decide)
  cases e2
  simp only [rd_T36, List.getD, Int.toNat_zero, Int.reduceToNat, List.getElem?_cons_zero, List.getElem?_cons_succ, Option.getD_some, Nat.reduceMul, Nat.zero_mul, Go.Addr.add_zero', show (1 : Int).toNat = 1 from rfl, List.length_cons, List.length_nil, Nat.reduceAdd] at g00 g01 g10 g11 g20 g21 hc ⊢
  obtain ⟨b, o, s⟩ := ad
  have hs : s = none := by simpa using World.cell?_spot g00
  subst hs
  simp only [Go.Proofs.YtjeomkojpkienaaDoor.add_plain, Nat.add_assoc, Nat.reduceAdd] at g01 g10 g11 g20 g21
  have hw0 : Below w.heap.size w w2 := Go.Proofs.YtjeomkojpkienaaDoor.below_size (Go.Proofs.YtjeomkojpkienaaDoor.below_size ((Below.refl _ _).alloc (Nat.le_refl _) _) hb1) hb2
  have hT2 : Tabs w2 := hT.below hw0
  clear hb1 hb2 hR1 hR2 hC hT
  go_wp2_with fail
  refine (words_One.calls _ _ _ [] _ _ (Kd.C_nil _ _) (Nat.le_refl _) hT2 incipitlaw09_awake.e3).mono ?_
  rintro e w3 ⟨rfl, b3⟩
  have hw3 := Go.Proofs.YtjeomkojpkienaaDoor.below_size hw0 b3
  have hT3 := hT2.below b3
  clear hw0 b3 hT2
  go_wp2_with fail
  refine (words_One.calls _ _ _ [] _ _ (Kd.C_nil _ _) (Nat.le_refl _) hT3 incipitlaw09_awake.e4).mono ?_
  rintro e w4 ⟨rfl, b4⟩
  have hw4 := Go.Proofs.YtjeomkojpkienaaDoor.below_size hw3 b4
  have hT4 := hT3.below b4
  clear hw3 b4 hT3
  go_wp2_with fail
  refine (words_One.calls _ _ _ [] _ _ (Kd.C_nil _ _) (Nat.le_refl _) hT4 incipitlaw09_awake.e5).mono ?_
  rintro e w5 ⟨rfl, b5⟩
  have hw5 := Go.Proofs.YtjeomkojpkienaaDoor.below_size hw4 b5
  have hT5 := hT4.below b5
  clear hw4 b5 hT4
  go_wp2_with fail
  refine (words_One.calls _ _ _ [⟨#[116, 104, 101]⟩] _ _ (texts_new _ _ _ _ (by decide)) (Nat.le_refl _) (hT5.alloc _) incipitlaw09_awake.e6).mono ?_
  rintro e w6 ⟨rfl, b6⟩
  have hw6 := Go.Proofs.YtjeomkojpkienaaDoor.below_size (hw5.alloc (Below.size hw5) _) b6
  have hT6 := (hT5.alloc _).below b6
  clear hw5 b6 hT5
  go_wp2_with fail
  refine (words_MayStops.calls 9 _ _ [⟨#[97]⟩, ⟨#[116, 104, 101]⟩] _ _ (texts_new _ _ _ _ (by decide)) (Nat.le_refl _) (hT6.alloc _) incipitlaw09_awake.e7).mono ?_
  rintro e w7 ⟨rfl, b7⟩
  have hw7 := Go.Proofs.YtjeomkojpkienaaDoor.below_size (hw6.alloc (Below.size hw6) _) b7
  have hT7 := (hT6.alloc _).below b7
  clear hw6 b7 hT6
  go_wp2_with fail
  refine (words_MayStops.calls 9 _ _ [⟨#[116, 104, 101]⟩, ⟨#[97]⟩] _ _ (texts_new _ _ _ _ (by decide)) (Nat.le_refl _) (hT7.alloc _) incipitlaw09_awake.e8).mono ?_
  rintro e w8 ⟨rfl, b8⟩
  have hw8 := Go.Proofs.YtjeomkojpkienaaDoor.below_size (hw7.alloc (Below.size hw7) _) b8
  have hT8 := (hT7.alloc _).below b8
  clear hw7 b8 hT7
  go_wp2_with fail
  refine (words_MayStops.calls 9 _ _ [⟨#[97, 32, 98]⟩] _ _ (texts_new _ _ _ _ (by decide)) (Nat.le_refl _) (hT8.alloc _) incipitlaw09_awake.e9).mono ?_
  rintro e w9 ⟨rfl, b9⟩
  have hw9 := Go.Proofs.YtjeomkojpkienaaDoor.below_size (hw8.alloc (Below.size hw8) _) b9
  clear hw8 b9 hT8
  go_wp2_with fail
  go_ret
  exact ⟨rfl, hw9⟩
end


/-! ### incipitlaw09_WordsJoins: function 7 -/
mutual
def incipitlaw09_WordsJoins.j0 : Nat → ByteArray → ByteArray → Bool → Option (Bool)
  | 0, _, _, _ => none
  | k + 1, x0, x1, x19 => if x19 = true then ((incipitlaw09_awake.f).bind fun t115 => (some t115)) else ((words_Words.f x0 ([] : List ByteArray)).bind fun bt116 => ((words_Words.f x1 ([] : List ByteArray)).bind fun bt120 => (if x0.size + 1 ≤ 9223372036854775807 then (if (x0 ++ (⟨#[32]⟩ : ByteArray)).size + x1.size ≤ 9223372036854775807 then ((words_Words.f ((x0 ++ (⟨#[32]⟩ : ByteArray)) ++ x1) ([] : List ByteArray)).bind fun bt124 => (if bt116.2 = 0 then (incipitlaw09_WordsJoins.j1 k bt116.1 bt120.1 bt124.1 bt124.2 (bt120.2 != 0)) else (incipitlaw09_WordsJoins.j1 k bt116.1 bt120.1 bt124.1 bt124.2 true))) else (none)) else (none))))
def incipitlaw09_WordsJoins.j1 : Nat → List (S36) → List (S36) → List (S36) → Int → Bool → Option (Bool)
  | 0, _, _, _, _, _ => none
  | k + 1, x5, x7, x9, x10, x44 => if x44 = true then (if x10 = 0 then (none) else ((incipitlaw09_awake.f).bind fun t128 => (some t128))) else (if (wrap64 ((x5.length : Int) + (x7.length : Int))) > 48 then (if x10 = 7 then ((incipitlaw09_awake.f).bind fun t129 => (some t129)) else (none)) else (if x10 = 0 then (incipitlaw09_WordsJoins.j2 k x5 x7 x9 ((x9.length : Int) != (wrap64 ((x5.length : Int) + (x7.length : Int))))) else (incipitlaw09_WordsJoins.j2 k x5 x7 x9 true)))
def incipitlaw09_WordsJoins.j2 : Nat → List (S36) → List (S36) → List (S36) → Bool → Option (Bool)
  | 0, _, _, _, _ => none
  | k + 1, x5, x7, x9, x72 => if x72 = true then (none) else (incipitlaw09_WordsJoins.l0 k x5 x7 x9 0)
def incipitlaw09_WordsJoins.l0 : Nat → List (S36) → List (S36) → List (S36) → Int → Option (Bool)
  | 0, _, _, _, _ => none
  | k + 1, x5, x7, x9, x11 => if x11 < (x9.length : Int) then (if x11 < (x5.length : Int) then (if 0 ≤ x11 then (if (!((((rd_T36 x9 x11).f0).toList) == (((rd_T36 x5 x11).f0).toList)) || (!(((rd_T36 x9 x11).f1) == ((rd_T36 x5 x11).f1)))) = true then (none) else (if x11 ≥ (x5.length : Int) then (if 0 ≤ (wrap64 (x11 - (x5.length : Int))) then (if (wrap64 (x11 - (x5.length : Int))) < (x7.length : Int) then (if ((rd_T36 x9 x11).f0).toList = ((rd_T36 x7 (wrap64 (x11 - (x5.length : Int)))).f0).toList then (if ((rd_T36 x9 x11).f1) = x11 then (incipitlaw09_WordsJoins.l0 k x5 x7 x9 (wrap64 (x11 + 1))) else (none)) else (none)) else (none)) else (none)) else (incipitlaw09_WordsJoins.l0 k x5 x7 x9 (wrap64 (x11 + 1))))) else (none)) else (if x11 ≥ (x5.length : Int) then (if 0 ≤ x11 then (if 0 ≤ (wrap64 (x11 - (x5.length : Int))) then (if (wrap64 (x11 - (x5.length : Int))) < (x7.length : Int) then (if ((rd_T36 x9 x11).f0).toList = ((rd_T36 x7 (wrap64 (x11 - (x5.length : Int)))).f0).toList then (if ((rd_T36 x9 x11).f1) = x11 then (incipitlaw09_WordsJoins.l0 k x5 x7 x9 (wrap64 (x11 + 1))) else (none)) else (none)) else (none)) else (none)) else (none)) else (incipitlaw09_WordsJoins.l0 k x5 x7 x9 (wrap64 (x11 + 1))))) else ((incipitlaw09_awake.f).bind fun t138 => (some t138))
end
def incipitlaw09_WordsJoins.f (k : Nat) (a0 : ByteArray) (a1 : ByteArray) : Option (Bool) := if (a0.size : Int) > 1000 then (incipitlaw09_WordsJoins.j0 k a0 a1 true) else (incipitlaw09_WordsJoins.j0 k a0 a1 (decide ((a1.size : Int) > 1000)))
theorem incipitlaw09_WordsJoins.mono_l : ∀ k, (∀ y0 y1 y2, LeO (incipitlaw09_WordsJoins.j0 k y0 y1 y2) (incipitlaw09_WordsJoins.j0 (k + 1) y0 y1 y2)) ∧ (∀ y0 y1 y2 y3 y4, LeO (incipitlaw09_WordsJoins.j1 k y0 y1 y2 y3 y4) (incipitlaw09_WordsJoins.j1 (k + 1) y0 y1 y2 y3 y4)) ∧ (∀ y0 y1 y2 y3, LeO (incipitlaw09_WordsJoins.j2 k y0 y1 y2 y3) (incipitlaw09_WordsJoins.j2 (k + 1) y0 y1 y2 y3)) ∧ (∀ y0 y1 y2 y3, LeO (incipitlaw09_WordsJoins.l0 k y0 y1 y2 y3) (incipitlaw09_WordsJoins.l0 (k + 1) y0 y1 y2 y3))
  | 0 => ⟨fun _ _ _ r h => by simp [incipitlaw09_WordsJoins.j0] at h, fun _ _ _ _ _ r h => by simp [incipitlaw09_WordsJoins.j1] at h, fun _ _ _ _ r h => by simp [incipitlaw09_WordsJoins.j2] at h, fun _ _ _ _ r h => by simp [incipitlaw09_WordsJoins.l0] at h⟩
  | k + 1 => by
    obtain ⟨ih0, ih1, ih2, ih3⟩ := incipitlaw09_WordsJoins.mono_l k
    refine ⟨?_, ?_, ?_, ?_⟩
    · intro y0 y1 y2
      unfold incipitlaw09_WordsJoins.j0
      repeat' first
      | (with_reducible exact ih0 _ _ _)
      | (with_reducible exact ih1 _ _ _ _ _)
      | (with_reducible exact ih2 _ _ _ _)
      | (with_reducible exact ih3 _ _ _ _)
      | (with_reducible exact LeO.refl _)
      | (with_reducible exact LeO.none _)
      | (with_reducible refine LeO.ite ?_ ?_)
      | (with_reducible refine LeO.bind ?_ (fun _ => ?_))
      | exact ih0 _ _ _
      | exact ih1 _ _ _ _ _
      | exact ih2 _ _ _ _
      | exact ih3 _ _ _ _
      | exact LeO.none _
      | refine LeO.ite ?_ ?_
      | refine LeO.bind ?_ (fun _ => ?_)
    · intro y0 y1 y2 y3 y4
      unfold incipitlaw09_WordsJoins.j1
      repeat' first
      | (with_reducible exact ih0 _ _ _)
      | (with_reducible exact ih1 _ _ _ _ _)
      | (with_reducible exact ih2 _ _ _ _)
      | (with_reducible exact ih3 _ _ _ _)
      | (with_reducible exact LeO.refl _)
      | (with_reducible exact LeO.none _)
      | (with_reducible refine LeO.ite ?_ ?_)
      | (with_reducible refine LeO.bind ?_ (fun _ => ?_))
      | exact ih0 _ _ _
      | exact ih1 _ _ _ _ _
      | exact ih2 _ _ _ _
      | exact ih3 _ _ _ _
      | exact LeO.none _
      | refine LeO.ite ?_ ?_
      | refine LeO.bind ?_ (fun _ => ?_)
    · intro y0 y1 y2 y3
      unfold incipitlaw09_WordsJoins.j2
      repeat' first
      | (with_reducible exact ih0 _ _ _)
      | (with_reducible exact ih1 _ _ _ _ _)
      | (with_reducible exact ih2 _ _ _ _)
      | (with_reducible exact ih3 _ _ _ _)
      | (with_reducible exact LeO.refl _)
      | (with_reducible exact LeO.none _)
      | (with_reducible refine LeO.ite ?_ ?_)
      | (with_reducible refine LeO.bind ?_ (fun _ => ?_))
      | exact ih0 _ _ _
      | exact ih1 _ _ _ _ _
      | exact ih2 _ _ _ _
      | exact ih3 _ _ _ _
      | exact LeO.none _
      | refine LeO.ite ?_ ?_
      | refine LeO.bind ?_ (fun _ => ?_)
    · intro y0 y1 y2 y3
      unfold incipitlaw09_WordsJoins.l0
      repeat' first
      | (with_reducible exact ih0 _ _ _)
      | (with_reducible exact ih1 _ _ _ _ _)
      | (with_reducible exact ih2 _ _ _ _)
      | (with_reducible exact ih3 _ _ _ _)
      | (with_reducible exact LeO.refl _)
      | (with_reducible exact LeO.none _)
      | (with_reducible refine LeO.ite ?_ ?_)
      | (with_reducible refine LeO.bind ?_ (fun _ => ?_))
      | exact ih0 _ _ _
      | exact ih1 _ _ _ _ _
      | exact ih2 _ _ _ _
      | exact ih3 _ _ _ _
      | exact LeO.none _
      | refine LeO.ite ?_ ?_
      | refine LeO.bind ?_ (fun _ => ?_)
theorem incipitlaw09_WordsJoins.mono : ∀ a0 a1 k, LeO (incipitlaw09_WordsJoins.f k a0 a1) (incipitlaw09_WordsJoins.f (k + 1) a0 a1) := by
  intro a0 a1 k
  obtain ⟨ih0, ih1, ih2, ih3⟩ := incipitlaw09_WordsJoins.mono_l k
  unfold incipitlaw09_WordsJoins.f
  repeat' first
      | (with_reducible exact ih0 _ _ _)
      | (with_reducible exact ih1 _ _ _ _ _)
      | (with_reducible exact ih2 _ _ _ _)
      | (with_reducible exact ih3 _ _ _ _)
      | (with_reducible exact LeO.refl _)
      | (with_reducible exact LeO.none _)
      | (with_reducible refine LeO.ite ?_ ?_)
      | (with_reducible refine LeO.bind ?_ (fun _ => ?_))
      | exact ih0 _ _ _
      | exact ih1 _ _ _ _ _
      | exact ih2 _ _ _ _
      | exact ih3 _ _ _ _
      | exact LeO.none _
      | refine LeO.ite ?_ ?_
      | refine LeO.bind ?_ (fun _ => ?_)
set_option maxHeartbeats 8000000 in
set_option maxRecDepth 100000 in
theorem incipitlaw09_WordsJoins.calls (k : Nat) (a0 : ByteArray) (a1 : ByteArray) (r : Bool) (w : World) (hT : Tabs w) (h : incipitlaw09_WordsJoins.f k a0 a1 = some r) :
    Calls Tryd.prog 7 #[.string a0, .string a1] w fun e w' => e = .returned (.bool r) ∧ Below w.heap.size w w' := by
  have hu36 := Tryd.underlying36
  have HLT := Aside0.mk hT
  clear hT
  have HB := Aside0.mk (Below.refl w.heap.size w)
  have H : (if (a0.size : Int) > 1000 then (incipitlaw09_WordsJoins.j0 k a0 a1 true) else (incipitlaw09_WordsJoins.j0 k a0 a1 (decide ((a1.size : Int) > 1000)))) = some r := h
  clear h
  have HC3 := Aside0.mk H
  clear H
  go_enter Tryd.func7, Tryd.ntmps7
  go_upto_region 1 with (fail)
  repeat (go_quiet (fail); go_upto_region 1 with (fail))
  go_cut [19] (fun v19 wc => ∃ (kq : Nat) (x19_2 : Bool), v19 = .bool x19_2 ∧ Aside0 (incipitlaw09_WordsJoins.j0 kq a0 a1 x19_2 = some r) ∧ Aside0 (kq ≤ k) ∧ Aside0 (Below w.heap.size w wc))
  case first =>
    have H := HC3.out
    clear HC3
    by_cases c4 : (a0.size : Int) > 1000
    · rw [if_pos c4] at H
      have c4b0 : decide (1000 < (a0.size : Int)) = true := decide_eq_true c4
      have c4b1 : decide (1000 < a0.size) = true := decide_eq_true (by omega)
      clear c4
      (first | rw [c4b0] | (simp only [i64_w, i32_w]; rw [c4b0]) | skip)
      have H' := Aside0.mk H
      clear H
      go_wp2
      repeat (go_quiet (fail); try go_wp2)
      go_meet
      case rel => exact ⟨_, (true), (by first | rfl | (simp; done) | (simp [*]; done)), H', ⟨by first | omega | exact Nat.le_refl _⟩, ⟨by repeat (first | (with_reducible first | exact HB.out | apply below_alloc | apply pw_below_drewN | apply below_drew1) | exact HB.out)⟩⟩
    · rw [if_neg c4] at H
      have c4b0 : decide (1000 < (a0.size : Int)) = false := decide_eq_false c4
      have c4b1 : decide (1000 < a0.size) = false := decide_eq_false (by omega)
      clear c4
      (first | rw [c4b0] | (simp only [i64_w, i32_w]; rw [c4b0]) | skip)
      have H' := Aside0.mk H
      clear H
      go_wp2
      repeat (go_quiet (fail); try go_wp2)
      go_meet
      case rel => exact ⟨_, (decide ((a1.size : Int) > 1000)), (by first | rfl | (simp; done) | (simp [*]; done)), H', ⟨by first | omega | exact Nat.le_refl _⟩, ⟨by repeat (first | (with_reducible first | exact HB.out | apply below_alloc | apply pw_below_drewN | apply below_drew1) | exact HB.out)⟩⟩
  case rest =>
    clear HC3
    try clear p2
    try clear c4
    try clear c4b0
    try clear c4b1
    obtain ⟨kq, x19_2, rfl, HA, HJ2, HB⟩ := hcut
    cases kq with
    | zero => exact absurd HA.out (by simp [incipitlaw09_WordsJoins.j0])
    | succ kj2 =>
      have H := HA.out
      clear HA
      simp only [incipitlaw09_WordsJoins.j0] at H
      by_cases c5 : x19_2 = true
      · subst c5
        have H1 : ((incipitlaw09_awake.f).bind fun t115 => (some t115)) = some r := by rw [if_pos rfl] at H; exact H
        clear H
        have H := H1
        clear H1
        replace H := Option.bind_eq_some_iff.mp H
        obtain ⟨t115, A60, H⟩ := H
        replace H : (some t115) = some r := H
        have A6 := Aside0.mk A60
        clear A60
        obtain rfl := Option.some.inj H
        go_wp2_with (first | (go_at_call 10; (with_reducible refine (incipitlaw09_awake.calls  t115 _ ?side1 A6.out).mono ?_); (case side1 => repeat (first | exact (Tabs.below HLT.out HB.out) | (with_reducible refine Tabs.alloc ?_ _) | (with_reducible refine Tabs.drewN ?_ _) | (with_reducible refine Tabs.drew ?_))); rintro e w7 ⟨rfl, hb⟩; have n0_ := Aside0.mk (below_step (by repeat (first | (with_reducible first | exact HB.out | apply below_alloc | apply pw_below_drewN | apply below_drew1) | exact HB.out)) hb); clear HB; have HB := n0_; clear n0_; (try clear hb); (try clear hb2); (try clear hk); (try clear hi)))
        repeat (go_quiet (first | (go_at_call 10; (with_reducible refine (incipitlaw09_awake.calls  t115 _ ?side1 A6.out).mono ?_); (case side1 => repeat (first | exact (Tabs.below HLT.out HB.out) | (with_reducible refine Tabs.alloc ?_ _) | (with_reducible refine Tabs.drewN ?_ _) | (with_reducible refine Tabs.drew ?_))); rintro e w7 ⟨rfl, hb⟩; have n0_ := Aside0.mk (below_step (by repeat (first | (with_reducible first | exact HB.out | apply below_alloc | apply pw_below_drewN | apply below_drew1) | exact HB.out)) hb); clear HB; have HB := n0_; clear n0_; (try clear hb); (try clear hb2); (try clear hk); (try clear hi))); try go_wp2_with (first | (go_at_call 10; (with_reducible refine (incipitlaw09_awake.calls  t115 _ ?side1 A6.out).mono ?_); (case side1 => repeat (first | exact (Tabs.below HLT.out HB.out) | (with_reducible refine Tabs.alloc ?_ _) | (with_reducible refine Tabs.drewN ?_ _) | (with_reducible refine Tabs.drew ?_))); rintro e w7 ⟨rfl, hb⟩; have n0_ := Aside0.mk (below_step (by repeat (first | (with_reducible first | exact HB.out | apply below_alloc | apply pw_below_drewN | apply below_drew1) | exact HB.out)) hb); clear HB; have HB := n0_; clear n0_; (try clear hb); (try clear hb2); (try clear hk); (try clear hi))))
        go_ret
        exact ⟨by first | rfl | (simp [errW_none, errW_some] <;> rfl) | (simp [*, errW_none, errW_some] <;> rfl), by repeat (first | (with_reducible first | exact HB.out | apply below_alloc | apply pw_below_drewN | apply below_drew1) | exact HB.out)⟩
      · replace c5 := Bool.eq_false_iff.mpr c5
        subst c5
        have H1 : ((words_Words.f a0 ([] : List ByteArray)).bind fun bt116 => ((words_Words.f a1 ([] : List ByteArray)).bind fun bt120 => (if a0.size + 1 ≤ 9223372036854775807 then (if (a0 ++ (⟨#[32]⟩ : ByteArray)).size + a1.size ≤ 9223372036854775807 then ((words_Words.f ((a0 ++ (⟨#[32]⟩ : ByteArray)) ++ a1) ([] : List ByteArray)).bind fun bt124 => (if bt116.2 = 0 then (incipitlaw09_WordsJoins.j1 kj2 bt116.1 bt120.1 bt124.1 bt124.2 (bt120.2 != 0)) else (incipitlaw09_WordsJoins.j1 kj2 bt116.1 bt120.1 bt124.1 bt124.2 true))) else (none)) else (none)))) = some r := by rw [if_neg (show ¬ (false = true) by decide)] at H; exact H
        clear H
        have H := H1
        clear H1
        replace H := Option.bind_eq_some_iff.mp H
        obtain ⟨⟨t116, t117⟩, A80, H⟩ := H
        replace H : ((words_Words.f a1 ([] : List ByteArray)).bind fun bt120 => (if a0.size + 1 ≤ 9223372036854775807 then (if (a0 ++ (⟨#[32]⟩ : ByteArray)).size + a1.size ≤ 9223372036854775807 then ((words_Words.f ((a0 ++ (⟨#[32]⟩ : ByteArray)) ++ a1) ([] : List ByteArray)).bind fun bt124 => (if t117 = 0 then (incipitlaw09_WordsJoins.j1 kj2 t116 bt120.1 bt124.1 bt124.2 (bt120.2 != 0)) else (incipitlaw09_WordsJoins.j1 kj2 t116 bt120.1 bt124.1 bt124.2 true))) else (none)) else (none))) = some r := H
        have A8 := Aside0.mk A80
        clear A80
        replace H := Option.bind_eq_some_iff.mp H
        obtain ⟨⟨t120, t121⟩, A90, H⟩ := H
        replace H : (if a0.size + 1 ≤ 9223372036854775807 then (if (a0 ++ (⟨#[32]⟩ : ByteArray)).size + a1.size ≤ 9223372036854775807 then ((words_Words.f ((a0 ++ (⟨#[32]⟩ : ByteArray)) ++ a1) ([] : List ByteArray)).bind fun bt124 => (if t117 = 0 then (incipitlaw09_WordsJoins.j1 kj2 t116 t120 bt124.1 bt124.2 (t121 != 0)) else (incipitlaw09_WordsJoins.j1 kj2 t116 t120 bt124.1 bt124.2 true))) else (none)) else (none)) = some r := H
        have A9 := Aside0.mk A90
        clear A90
        by_cases c10 : a0.size + 1 ≤ 9223372036854775807
        · rw [if_pos c10] at H
          have c10b0 := eq_true c10
          have c10b1 : decide (a0.size + 1 ≤ 9223372036854775807) = true := decide_eq_true c10
          try have c10b2 : (9223372036854775807 < a0.size + 1) = False := eq_false (Nat.not_lt.2 c10)
          by_cases c11 : (a0 ++ (⟨#[32]⟩ : ByteArray)).size + a1.size ≤ 9223372036854775807
          · rw [if_pos c11] at H
            have c11b0 := eq_true c11
            have c11b1 : decide ((a0 ++ (⟨#[32]⟩ : ByteArray)).size + a1.size ≤ 9223372036854775807) = true := decide_eq_true c11
            try have c11b2 : (9223372036854775807 < (a0 ++ (⟨#[32]⟩ : ByteArray)).size + a1.size) = False := eq_false (Nat.not_lt.2 c11)
            replace H := Option.bind_eq_some_iff.mp H
            obtain ⟨⟨t124, t125⟩, A120, H⟩ := H
            replace H : (if t117 = 0 then (incipitlaw09_WordsJoins.j1 kj2 t116 t120 t124 t125 (t121 != 0)) else (incipitlaw09_WordsJoins.j1 kj2 t116 t120 t124 t125 true)) = some r := H
            have A12 := Aside0.mk A120
            clear A120
            have HC13 := Aside0.mk H
            clear H
            go_upto_region 6 with (first | (go_at_call 11; (with_reducible show Calls _ _ #[.string a0, _] _ _); (refine (words_Words.calls a0 _ _ ([] : List ByteArray) t116 t117 _ ?side1 ?side2 ?side3 A8.out).mono ?_); (case side1 => exact Kd.C_nil _ _); (case side2 => exact Nat.le_refl _); (case side3 => repeat (first | exact (Tabs.below HLT.out HB.out) | (with_reducible refine Tabs.alloc ?_ _) | (with_reducible refine Tabs.drewN ?_ _) | (with_reducible refine Tabs.drew ?_))); rintro e w14 ⟨v118, rfl, ho0, hb⟩; have n0_ := Aside0.mk (Kd.R_lower ho0 (below_size (by repeat (first | (with_reducible first | exact HB.out | apply below_alloc | apply pw_below_drewN | apply below_drew1) | exact HB.out)))); have n1_ := Aside0.mk (below_step (by repeat (first | (with_reducible first | exact HB.out | apply below_alloc | apply pw_below_drewN | apply below_drew1) | exact HB.out)) hb); clear HB; have HO119 := n0_; have HB := n1_; clear n0_ n1_; (try clear hb); (try clear hb2); (try clear hk); (try clear hi); (try clear ho0)) | (go_at_call 11; (with_reducible show Calls _ _ #[.string a1, _] _ _); (refine (words_Words.calls a1 _ _ ([] : List ByteArray) t120 t121 _ ?side1 ?side2 ?side3 A9.out).mono ?_); (case side1 => exact Kd.C_nil _ _); (case side2 => exact Nat.le_refl _); (case side3 => repeat (first | exact (Tabs.below HLT.out HB.out) | (with_reducible refine Tabs.alloc ?_ _) | (with_reducible refine Tabs.drewN ?_ _) | (with_reducible refine Tabs.drew ?_))); rintro e w15 ⟨v122, rfl, ho0, hb⟩; have n0_ := Aside0.mk (Kd.R_elder' (by (with_reducible repeat (first | apply Kd.R_alloc | apply Kd.R_drewN | apply Kd.R_drew)); exact HO119.out) (Kd.R_base ho0) hb); have n1_ := Aside0.mk (Kd.R_lower (Kd.R_new' ho0 (Kd.R_lt (by (with_reducible repeat (first | apply Kd.R_alloc | apply Kd.R_drewN | apply Kd.R_drew)); exact HO119.out))) (below_size (by repeat (first | (with_reducible first | exact HB.out | apply below_alloc | apply pw_below_drewN | apply below_drew1) | exact HB.out)))); have n2_ := Aside0.mk (below_step (by repeat (first | (with_reducible first | exact HB.out | apply below_alloc | apply pw_below_drewN | apply below_drew1) | exact HB.out)) hb); clear HO119; clear HB; have HO119 := n0_; have HO123 := n1_; have HB := n2_; clear n0_ n1_ n2_; (try clear hb); (try clear hb2); (try clear hk); (try clear hi); (try clear ho0)) | (go_at_call 11; (with_reducible show Calls _ _ #[.string ((a0 ++ (⟨#[32]⟩ : ByteArray)) ++ a1), _] _ _); (refine (words_Words.calls ((a0 ++ (⟨#[32]⟩ : ByteArray)) ++ a1) _ _ ([] : List ByteArray) t124 t125 _ ?side1 ?side2 ?side3 A12.out).mono ?_); (case side1 => exact Kd.C_nil _ _); (case side2 => exact Nat.le_refl _); (case side3 => repeat (first | exact (Tabs.below HLT.out HB.out) | (with_reducible refine Tabs.alloc ?_ _) | (with_reducible refine Tabs.drewN ?_ _) | (with_reducible refine Tabs.drew ?_))); rintro e w16 ⟨v126, rfl, ho0, hb⟩; have n0_ := Aside0.mk (Kd.R_elder' (by (with_reducible repeat (first | apply Kd.R_alloc | apply Kd.R_drewN | apply Kd.R_drew)); exact HO119.out) (Kd.R_base ho0) hb); have n1_ := Aside0.mk (Kd.R_elder' (by (with_reducible repeat (first | apply Kd.R_alloc | apply Kd.R_drewN | apply Kd.R_drew)); exact HO123.out) (Kd.R_base ho0) hb); have n2_ := Aside0.mk (Kd.R_lower (Kd.R_new' (Kd.R_new' ho0 (Kd.R_lt (by (with_reducible repeat (first | apply Kd.R_alloc | apply Kd.R_drewN | apply Kd.R_drew)); exact HO119.out))) (Kd.R_lt (by (with_reducible repeat (first | apply Kd.R_alloc | apply Kd.R_drewN | apply Kd.R_drew)); exact HO123.out))) (below_size (by repeat (first | (with_reducible first | exact HB.out | apply below_alloc | apply pw_below_drewN | apply below_drew1) | exact HB.out)))); have n3_ := Aside0.mk (below_step (by repeat (first | (with_reducible first | exact HB.out | apply below_alloc | apply pw_below_drewN | apply below_drew1) | exact HB.out)) hb); clear HO119; clear HO123; clear HB; have HO119 := n0_; have HO123 := n1_; have HO127 := n2_; have HB := n3_; clear n0_ n1_ n2_ n3_; (try clear hb); (try clear hb2); (try clear hk); (try clear hi); (try clear ho0)))
            repeat (go_quiet (first | (go_at_call 11; (with_reducible show Calls _ _ #[.string a0, _] _ _); (refine (words_Words.calls a0 _ _ ([] : List ByteArray) t116 t117 _ ?side1 ?side2 ?side3 A8.out).mono ?_); (case side1 => exact Kd.C_nil _ _); (case side2 => exact Nat.le_refl _); (case side3 => repeat (first | exact (Tabs.below HLT.out HB.out) | (with_reducible refine Tabs.alloc ?_ _) | (with_reducible refine Tabs.drewN ?_ _) | (with_reducible refine Tabs.drew ?_))); rintro e w14 ⟨v118, rfl, ho0, hb⟩; have n0_ := Aside0.mk (Kd.R_lower ho0 (below_size (by repeat (first | (with_reducible first | exact HB.out | apply below_alloc | apply pw_below_drewN | apply below_drew1) | exact HB.out)))); have n1_ := Aside0.mk (below_step (by repeat (first | (with_reducible first | exact HB.out | apply below_alloc | apply pw_below_drewN | apply below_drew1) | exact HB.out)) hb); clear HB; have HO119 := n0_; have HB := n1_; clear n0_ n1_; (try clear hb); (try clear hb2); (try clear hk); (try clear hi); (try clear ho0)) | (go_at_call 11; (with_reducible show Calls _ _ #[.string a1, _] _ _); (refine (words_Words.calls a1 _ _ ([] : List ByteArray) t120 t121 _ ?side1 ?side2 ?side3 A9.out).mono ?_); (case side1 => exact Kd.C_nil _ _); (case side2 => exact Nat.le_refl _); (case side3 => repeat (first | exact (Tabs.below HLT.out HB.out) | (with_reducible refine Tabs.alloc ?_ _) | (with_reducible refine Tabs.drewN ?_ _) | (with_reducible refine Tabs.drew ?_))); rintro e w15 ⟨v122, rfl, ho0, hb⟩; have n0_ := Aside0.mk (Kd.R_elder' (by (with_reducible repeat (first | apply Kd.R_alloc | apply Kd.R_drewN | apply Kd.R_drew)); exact HO119.out) (Kd.R_base ho0) hb); have n1_ := Aside0.mk (Kd.R_lower (Kd.R_new' ho0 (Kd.R_lt (by (with_reducible repeat (first | apply Kd.R_alloc | apply Kd.R_drewN | apply Kd.R_drew)); exact HO119.out))) (below_size (by repeat (first | (with_reducible first | exact HB.out | apply below_alloc | apply pw_below_drewN | apply below_drew1) | exact HB.out)))); have n2_ := Aside0.mk (below_step (by repeat (first | (with_reducible first | exact HB.out | apply below_alloc | apply pw_below_drewN | apply below_drew1) | exact HB.out)) hb); clear HO119; clear HB; have HO119 := n0_; have HO123 := n1_; have HB := n2_; clear n0_ n1_ n2_; (try clear hb); (try clear hb2); (try clear hk); (try clear hi); (try clear ho0)) | (go_at_call 11; (with_reducible show Calls _ _ #[.string ((a0 ++ (⟨#[32]⟩ : ByteArray)) ++ a1), _] _ _); (refine (words_Words.calls ((a0 ++ (⟨#[32]⟩ : ByteArray)) ++ a1) _ _ ([] : List ByteArray) t124 t125 _ ?side1 ?side2 ?side3 A12.out).mono ?_); (case side1 => exact Kd.C_nil _ _); (case side2 => exact Nat.le_refl _); (case side3 => repeat (first | exact (Tabs.below HLT.out HB.out) | (with_reducible refine Tabs.alloc ?_ _) | (with_reducible refine Tabs.drewN ?_ _) | (with_reducible refine Tabs.drew ?_))); rintro e w16 ⟨v126, rfl, ho0, hb⟩; have n0_ := Aside0.mk (Kd.R_elder' (by (with_reducible repeat (first | apply Kd.R_alloc | apply Kd.R_drewN | apply Kd.R_drew)); exact HO119.out) (Kd.R_base ho0) hb); have n1_ := Aside0.mk (Kd.R_elder' (by (with_reducible repeat (first | apply Kd.R_alloc | apply Kd.R_drewN | apply Kd.R_drew)); exact HO123.out) (Kd.R_base ho0) hb); have n2_ := Aside0.mk (Kd.R_lower (Kd.R_new' (Kd.R_new' ho0 (Kd.R_lt (by (with_reducible repeat (first | apply Kd.R_alloc | apply Kd.R_drewN | apply Kd.R_drew)); exact HO119.out))) (Kd.R_lt (by (with_reducible repeat (first | apply Kd.R_alloc | apply Kd.R_drewN | apply Kd.R_drew)); exact HO123.out))) (below_size (by repeat (first | (with_reducible first | exact HB.out | apply below_alloc | apply pw_below_drewN | apply below_drew1) | exact HB.out)))); have n3_ := Aside0.mk (below_step (by repeat (first | (with_reducible first | exact HB.out | apply below_alloc | apply pw_below_drewN | apply below_drew1) | exact HB.out)) hb); clear HO119; clear HO123; clear HB; have HO119 := n0_; have HO123 := n1_; have HO127 := n2_; have HB := n3_; clear n0_ n1_ n2_ n3_; (try clear hb); (try clear hb2); (try clear hk); (try clear hi); (try clear ho0))); go_upto_region 6 with (first | (go_at_call 11; (with_reducible show Calls _ _ #[.string a0, _] _ _); (refine (words_Words.calls a0 _ _ ([] : List ByteArray) t116 t117 _ ?side1 ?side2 ?side3 A8.out).mono ?_); (case side1 => exact Kd.C_nil _ _); (case side2 => exact Nat.le_refl _); (case side3 => repeat (first | exact (Tabs.below HLT.out HB.out) | (with_reducible refine Tabs.alloc ?_ _) | (with_reducible refine Tabs.drewN ?_ _) | (with_reducible refine Tabs.drew ?_))); rintro e w14 ⟨v118, rfl, ho0, hb⟩; have n0_ := Aside0.mk (Kd.R_lower ho0 (below_size (by repeat (first | (with_reducible first | exact HB.out | apply below_alloc | apply pw_below_drewN | apply below_drew1) | exact HB.out)))); have n1_ := Aside0.mk (below_step (by repeat (first | (with_reducible first | exact HB.out | apply below_alloc | apply pw_below_drewN | apply below_drew1) | exact HB.out)) hb); clear HB; have HO119 := n0_; have HB := n1_; clear n0_ n1_; (try clear hb); (try clear hb2); (try clear hk); (try clear hi); (try clear ho0)) | (go_at_call 11; (with_reducible show Calls _ _ #[.string a1, _] _ _); (refine (words_Words.calls a1 _ _ ([] : List ByteArray) t120 t121 _ ?side1 ?side2 ?side3 A9.out).mono ?_); (case side1 => exact Kd.C_nil _ _); (case side2 => exact Nat.le_refl _); (case side3 => repeat (first | exact (Tabs.below HLT.out HB.out) | (with_reducible refine Tabs.alloc ?_ _) | (with_reducible refine Tabs.drewN ?_ _) | (with_reducible refine Tabs.drew ?_))); rintro e w15 ⟨v122, rfl, ho0, hb⟩; have n0_ := Aside0.mk (Kd.R_elder' (by (with_reducible repeat (first | apply Kd.R_alloc | apply Kd.R_drewN | apply Kd.R_drew)); exact HO119.out) (Kd.R_base ho0) hb); have n1_ := Aside0.mk (Kd.R_lower (Kd.R_new' ho0 (Kd.R_lt (by (with_reducible repeat (first | apply Kd.R_alloc | apply Kd.R_drewN | apply Kd.R_drew)); exact HO119.out))) (below_size (by repeat (first | (with_reducible first | exact HB.out | apply below_alloc | apply pw_below_drewN | apply below_drew1) | exact HB.out)))); have n2_ := Aside0.mk (below_step (by repeat (first | (with_reducible first | exact HB.out | apply below_alloc | apply pw_below_drewN | apply below_drew1) | exact HB.out)) hb); clear HO119; clear HB; have HO119 := n0_; have HO123 := n1_; have HB := n2_; clear n0_ n1_ n2_; (try clear hb); (try clear hb2); (try clear hk); (try clear hi); (try clear ho0)) | (go_at_call 11; (with_reducible show Calls _ _ #[.string ((a0 ++ (⟨#[32]⟩ : ByteArray)) ++ a1), _] _ _); (refine (words_Words.calls ((a0 ++ (⟨#[32]⟩ : ByteArray)) ++ a1) _ _ ([] : List ByteArray) t124 t125 _ ?side1 ?side2 ?side3 A12.out).mono ?_); (case side1 => exact Kd.C_nil _ _); (case side2 => exact Nat.le_refl _); (case side3 => repeat (first | exact (Tabs.below HLT.out HB.out) | (with_reducible refine Tabs.alloc ?_ _) | (with_reducible refine Tabs.drewN ?_ _) | (with_reducible refine Tabs.drew ?_))); rintro e w16 ⟨v126, rfl, ho0, hb⟩; have n0_ := Aside0.mk (Kd.R_elder' (by (with_reducible repeat (first | apply Kd.R_alloc | apply Kd.R_drewN | apply Kd.R_drew)); exact HO119.out) (Kd.R_base ho0) hb); have n1_ := Aside0.mk (Kd.R_elder' (by (with_reducible repeat (first | apply Kd.R_alloc | apply Kd.R_drewN | apply Kd.R_drew)); exact HO123.out) (Kd.R_base ho0) hb); have n2_ := Aside0.mk (Kd.R_lower (Kd.R_new' (Kd.R_new' ho0 (Kd.R_lt (by (with_reducible repeat (first | apply Kd.R_alloc | apply Kd.R_drewN | apply Kd.R_drew)); exact HO119.out))) (Kd.R_lt (by (with_reducible repeat (first | apply Kd.R_alloc | apply Kd.R_drewN | apply Kd.R_drew)); exact HO123.out))) (below_size (by repeat (first | (with_reducible first | exact HB.out | apply below_alloc | apply pw_below_drewN | apply below_drew1) | exact HB.out)))); have n3_ := Aside0.mk (below_step (by repeat (first | (with_reducible first | exact HB.out | apply below_alloc | apply pw_below_drewN | apply below_drew1) | exact HB.out)) hb); clear HO119; clear HO123; clear HB; have HO119 := n0_; have HO123 := n1_; have HO127 := n2_; have HB := n3_; clear n0_ n1_ n2_ n3_; (try clear hb); (try clear hb2); (try clear hk); (try clear hi); (try clear ho0))))
            (try simp only [Act.put, List.setIfInBounds_toArray, List.set_cons_zero, List.set_cons_succ])
            go_cut [44] (fun v44 wc => ∃ (kq : Nat) (x44_12 : Bool), v44 = .bool x44_12 ∧ Aside0 (incipitlaw09_WordsJoins.j1 kq t116 t120 t124 t125 x44_12 = some r) ∧ Aside0 (kq ≤ kj2) ∧ Aside0 (Kd.R k36 36 wc w.heap.size (fun k_ => some k_ ≠ (v122 : Value).ownBlock ∧ some k_ ≠ (v126 : Value).ownBlock) v118 t116) ∧ Aside0 (Kd.R k36 36 wc w.heap.size (fun k_ => some k_ ≠ (v118 : Value).ownBlock ∧ some k_ ≠ (v126 : Value).ownBlock) v122 t120) ∧ Aside0 (Kd.R k36 36 wc w.heap.size (fun k_ => some k_ ≠ (v118 : Value).ownBlock ∧ some k_ ≠ (v122 : Value).ownBlock) v126 t124) ∧ Aside0 (Below w.heap.size w wc))
            case first =>
              have H := HC13.out
              clear HC13
              by_cases c17 : t117 = 0
              · rw [if_pos c17] at H
                have c17b0 : (t117 == 0) = true := beq_iff_eq.mpr c17
                have c17b1 : (t117 != 0) = false := bne_eq_false_iff_eq.mpr c17
                clear c17
                (first | rw [c17b0] | (simp only [i64_w, i32_w]; rw [c17b0]) | skip)
                have H' := Aside0.mk H
                clear H
                go_wp2
                repeat (go_quiet (fail); try go_wp2)
                go_meet
                case rel => exact ⟨_, ((t121 != 0)), (by first | rfl | (simp; done) | (simp [*]; done)), H', ⟨by have := HJ2.out; first | omega | exact Nat.le_refl _⟩, ⟨by (with_reducible repeat (first | apply Kd.R_alloc | apply Kd.R_drewN | apply Kd.R_drew)); exact Kd.R_mono HO119.out (fun _ hk => ⟨hk.1.2, hk.2⟩)⟩, ⟨by (with_reducible repeat (first | apply Kd.R_alloc | apply Kd.R_drewN | apply Kd.R_drew)); exact Kd.R_mono HO123.out (fun _ hk => ⟨hk.1.2, hk.2⟩)⟩, ⟨by (with_reducible repeat (first | apply Kd.R_alloc | apply Kd.R_drewN | apply Kd.R_drew)); exact Kd.R_mono HO127.out (fun _ hk => ⟨hk.1.2, hk.2⟩)⟩, ⟨by repeat (first | (with_reducible first | exact HB.out | apply below_alloc | apply pw_below_drewN | apply below_drew1) | exact HB.out)⟩⟩
              · rw [if_neg c17] at H
                have c17b0 : (t117 == 0) = false := beq_eq_false_iff_ne.mpr c17
                have c17b1 : (t117 != 0) = true := bne_iff_ne.mpr c17
                (first | rw [c17b0] | (simp only [i64_w, i32_w]; rw [c17b0]) | skip)
                have H' := Aside0.mk H
                clear H
                go_wp2
                repeat (go_quiet (fail); try go_wp2)
                go_meet
                case rel => exact ⟨_, (true), (by first | rfl | (simp; done) | (simp [*]; done)), H', ⟨by have := HJ2.out; first | omega | exact Nat.le_refl _⟩, ⟨by (with_reducible repeat (first | apply Kd.R_alloc | apply Kd.R_drewN | apply Kd.R_drew)); exact Kd.R_mono HO119.out (fun _ hk => ⟨hk.1.2, hk.2⟩)⟩, ⟨by (with_reducible repeat (first | apply Kd.R_alloc | apply Kd.R_drewN | apply Kd.R_drew)); exact Kd.R_mono HO123.out (fun _ hk => ⟨hk.1.2, hk.2⟩)⟩, ⟨by (with_reducible repeat (first | apply Kd.R_alloc | apply Kd.R_drewN | apply Kd.R_drew)); exact Kd.R_mono HO127.out (fun _ hk => ⟨hk.1.2, hk.2⟩)⟩, ⟨by repeat (first | (with_reducible first | exact HB.out | apply below_alloc | apply pw_below_drewN | apply below_drew1) | exact HB.out)⟩⟩
            case rest =>
              clear HC13
              try clear c1
              try clear p2
              try clear c4
              try clear c4b0
              try clear c4b1
              try clear c5
              try clear c7
              try clear c10
              try clear c10b0
              try clear c10b1
              try clear c10b2
              try clear c11
              try clear c11b0
              try clear c11b1
              try clear c11b2
              try clear c17
              try clear c17b0
              try clear c17b1
              try clear p2
              obtain ⟨kq, x44_12, rfl, HA, HJ12, HO_5, HO_7, HO_9, HB⟩ := hcut
              cases kq with
              | zero => exact absurd HA.out (by simp [incipitlaw09_WordsJoins.j1])
              | succ kj12 =>
                have H := HA.out
                clear HA
                simp only [incipitlaw09_WordsJoins.j1] at H
                by_cases c18 : x44_12 = true
                · subst c18
                  have H1 : (if t125 = 0 then (none) else ((incipitlaw09_awake.f).bind fun t128 => (some t128))) = some r := by rw [if_pos rfl] at H; exact H
                  clear H
                  have H := H1
                  clear H1
                  by_cases c19 : t125 = 0
                  · rw [if_pos c19] at H
                    exact absurd H (by simp)
                  · rw [if_neg c19] at H
                    have c19b0 : (t125 == 0) = false := beq_eq_false_iff_ne.mpr c19
                    have c19b1 : (t125 != 0) = true := bne_iff_ne.mpr c19
                    replace H := Option.bind_eq_some_iff.mp H
                    obtain ⟨t128, A200, H⟩ := H
                    replace H : (some t128) = some r := H
                    have A20 := Aside0.mk A200
                    clear A200
                    obtain rfl := Option.some.inj H
                    go_wp2_with (first | (go_at_call 10; (with_reducible refine (incipitlaw09_awake.calls  t128 _ ?side1 A20.out).mono ?_); (case side1 => repeat (first | exact (Tabs.below HLT.out HB.out) | (with_reducible refine Tabs.alloc ?_ _) | (with_reducible refine Tabs.drewN ?_ _) | (with_reducible refine Tabs.drew ?_))); rintro e w21 ⟨rfl, hb⟩; have n0_ := Aside0.mk (Kd.R_below (by (with_reducible repeat (first | apply Kd.R_alloc | apply Kd.R_drewN | apply Kd.R_drew)); exact HO_5.out) hb); have n1_ := Aside0.mk (Kd.R_below (by (with_reducible repeat (first | apply Kd.R_alloc | apply Kd.R_drewN | apply Kd.R_drew)); exact HO_7.out) hb); have n2_ := Aside0.mk (Kd.R_below (by (with_reducible repeat (first | apply Kd.R_alloc | apply Kd.R_drewN | apply Kd.R_drew)); exact HO_9.out) hb); have n3_ := Aside0.mk (below_step (by repeat (first | (with_reducible first | exact HB.out | apply below_alloc | apply pw_below_drewN | apply below_drew1) | exact HB.out)) hb); clear HO_5; clear HO_7; clear HO_9; clear HB; have HO_5 := n0_; have HO_7 := n1_; have HO_9 := n2_; have HB := n3_; clear n0_ n1_ n2_ n3_; (try clear hb); (try clear hb2); (try clear hk); (try clear hi)))
                    repeat (go_quiet (first | (go_at_call 10; (with_reducible refine (incipitlaw09_awake.calls  t128 _ ?side1 A20.out).mono ?_); (case side1 => repeat (first | exact (Tabs.below HLT.out HB.out) | (with_reducible refine Tabs.alloc ?_ _) | (with_reducible refine Tabs.drewN ?_ _) | (with_reducible refine Tabs.drew ?_))); rintro e w21 ⟨rfl, hb⟩; have n0_ := Aside0.mk (Kd.R_below (by (with_reducible repeat (first | apply Kd.R_alloc | apply Kd.R_drewN | apply Kd.R_drew)); exact HO_5.out) hb); have n1_ := Aside0.mk (Kd.R_below (by (with_reducible repeat (first | apply Kd.R_alloc | apply Kd.R_drewN | apply Kd.R_drew)); exact HO_7.out) hb); have n2_ := Aside0.mk (Kd.R_below (by (with_reducible repeat (first | apply Kd.R_alloc | apply Kd.R_drewN | apply Kd.R_drew)); exact HO_9.out) hb); have n3_ := Aside0.mk (below_step (by repeat (first | (with_reducible first | exact HB.out | apply below_alloc | apply pw_below_drewN | apply below_drew1) | exact HB.out)) hb); clear HO_5; clear HO_7; clear HO_9; clear HB; have HO_5 := n0_; have HO_7 := n1_; have HO_9 := n2_; have HB := n3_; clear n0_ n1_ n2_ n3_; (try clear hb); (try clear hb2); (try clear hk); (try clear hi))); try go_wp2_with (first | (go_at_call 10; (with_reducible refine (incipitlaw09_awake.calls  t128 _ ?side1 A20.out).mono ?_); (case side1 => repeat (first | exact (Tabs.below HLT.out HB.out) | (with_reducible refine Tabs.alloc ?_ _) | (with_reducible refine Tabs.drewN ?_ _) | (with_reducible refine Tabs.drew ?_))); rintro e w21 ⟨rfl, hb⟩; have n0_ := Aside0.mk (Kd.R_below (by (with_reducible repeat (first | apply Kd.R_alloc | apply Kd.R_drewN | apply Kd.R_drew)); exact HO_5.out) hb); have n1_ := Aside0.mk (Kd.R_below (by (with_reducible repeat (first | apply Kd.R_alloc | apply Kd.R_drewN | apply Kd.R_drew)); exact HO_7.out) hb); have n2_ := Aside0.mk (Kd.R_below (by (with_reducible repeat (first | apply Kd.R_alloc | apply Kd.R_drewN | apply Kd.R_drew)); exact HO_9.out) hb); have n3_ := Aside0.mk (below_step (by repeat (first | (with_reducible first | exact HB.out | apply below_alloc | apply pw_below_drewN | apply below_drew1) | exact HB.out)) hb); clear HO_5; clear HO_7; clear HO_9; clear HB; have HO_5 := n0_; have HO_7 := n1_; have HO_9 := n2_; have HB := n3_; clear n0_ n1_ n2_ n3_; (try clear hb); (try clear hb2); (try clear hk); (try clear hi))))
                    go_ret
                    exact ⟨by first | rfl | (simp [errW_none, errW_some] <;> rfl) | (simp [*, errW_none, errW_some] <;> rfl), by repeat (first | (with_reducible first | exact HB.out | apply below_alloc | apply pw_below_drewN | apply below_drew1) | exact HB.out)⟩
                · replace c18 := Bool.eq_false_iff.mpr c18
                  subst c18
                  have H1 : (if (wrap64 ((t116.length : Int) + (t120.length : Int))) > 48 then (if t125 = 7 then ((incipitlaw09_awake.f).bind fun t129 => (some t129)) else (none)) else (if t125 = 0 then (incipitlaw09_WordsJoins.j2 kj12 t116 t120 t124 ((t124.length : Int) != (wrap64 ((t116.length : Int) + (t120.length : Int))))) else (incipitlaw09_WordsJoins.j2 kj12 t116 t120 t124 true))) = some r := by rw [if_neg (show ¬ (false = true) by decide)] at H; exact H
                  clear H
                  have H := H1
                  clear H1
                  by_cases c22 : (wrap64 ((t116.length : Int) + (t120.length : Int))) > 48
                  · rw [if_pos c22] at H
                    have c22b0 : decide (48 < (wrap64 ((t116.length : Int) + (t120.length : Int)))) = true := decide_eq_true c22
                    clear c22
                    by_cases c23 : t125 = 7
                    · rw [if_pos c23] at H
                      have c23b0 : (t125 == 7) = true := beq_iff_eq.mpr c23
                      have c23b1 : (t125 != 7) = false := bne_eq_false_iff_eq.mpr c23
                      clear c23
                      replace H := Option.bind_eq_some_iff.mp H
                      obtain ⟨t129, A240, H⟩ := H
                      replace H : (some t129) = some r := H
                      have A24 := Aside0.mk A240
                      clear A240
                      obtain rfl := Option.some.inj H
                      obtain ⟨Ao25, co25, eo25⟩ := Kd.R_slice HO_5.out
                      subst eo25
                      obtain ⟨Ao26, co26, eo26⟩ := Kd.R_slice HO_7.out
                      subst eo26
                      go_wp2_with (first | (go_at_call 10; (with_reducible refine (incipitlaw09_awake.calls  t129 _ ?side1 A24.out).mono ?_); (case side1 => repeat (first | exact (Tabs.below HLT.out HB.out) | (with_reducible refine Tabs.alloc ?_ _) | (with_reducible refine Tabs.drewN ?_ _) | (with_reducible refine Tabs.drew ?_))); rintro e w27 ⟨rfl, hb⟩; have n0_ := Aside0.mk (Kd.R_below (by (with_reducible repeat (first | apply Kd.R_alloc | apply Kd.R_drewN | apply Kd.R_drew)); exact HO_5.out) hb); have n1_ := Aside0.mk (Kd.R_below (by (with_reducible repeat (first | apply Kd.R_alloc | apply Kd.R_drewN | apply Kd.R_drew)); exact HO_7.out) hb); have n2_ := Aside0.mk (Kd.R_below (by (with_reducible repeat (first | apply Kd.R_alloc | apply Kd.R_drewN | apply Kd.R_drew)); exact HO_9.out) hb); have n3_ := Aside0.mk (below_step (by repeat (first | (with_reducible first | exact HB.out | apply below_alloc | apply pw_below_drewN | apply below_drew1) | exact HB.out)) hb); clear HO_5; clear HO_7; clear HO_9; clear HB; have HO_5 := n0_; have HO_7 := n1_; have HO_9 := n2_; have HB := n3_; clear n0_ n1_ n2_ n3_; (try clear hb); (try clear hb2); (try clear hk); (try clear hi)))
                      repeat (go_quiet (first | (go_at_call 10; (with_reducible refine (incipitlaw09_awake.calls  t129 _ ?side1 A24.out).mono ?_); (case side1 => repeat (first | exact (Tabs.below HLT.out HB.out) | (with_reducible refine Tabs.alloc ?_ _) | (with_reducible refine Tabs.drewN ?_ _) | (with_reducible refine Tabs.drew ?_))); rintro e w27 ⟨rfl, hb⟩; have n0_ := Aside0.mk (Kd.R_below (by (with_reducible repeat (first | apply Kd.R_alloc | apply Kd.R_drewN | apply Kd.R_drew)); exact HO_5.out) hb); have n1_ := Aside0.mk (Kd.R_below (by (with_reducible repeat (first | apply Kd.R_alloc | apply Kd.R_drewN | apply Kd.R_drew)); exact HO_7.out) hb); have n2_ := Aside0.mk (Kd.R_below (by (with_reducible repeat (first | apply Kd.R_alloc | apply Kd.R_drewN | apply Kd.R_drew)); exact HO_9.out) hb); have n3_ := Aside0.mk (below_step (by repeat (first | (with_reducible first | exact HB.out | apply below_alloc | apply pw_below_drewN | apply below_drew1) | exact HB.out)) hb); clear HO_5; clear HO_7; clear HO_9; clear HB; have HO_5 := n0_; have HO_7 := n1_; have HO_9 := n2_; have HB := n3_; clear n0_ n1_ n2_ n3_; (try clear hb); (try clear hb2); (try clear hk); (try clear hi))); try go_wp2_with (first | (go_at_call 10; (with_reducible refine (incipitlaw09_awake.calls  t129 _ ?side1 A24.out).mono ?_); (case side1 => repeat (first | exact (Tabs.below HLT.out HB.out) | (with_reducible refine Tabs.alloc ?_ _) | (with_reducible refine Tabs.drewN ?_ _) | (with_reducible refine Tabs.drew ?_))); rintro e w27 ⟨rfl, hb⟩; have n0_ := Aside0.mk (Kd.R_below (by (with_reducible repeat (first | apply Kd.R_alloc | apply Kd.R_drewN | apply Kd.R_drew)); exact HO_5.out) hb); have n1_ := Aside0.mk (Kd.R_below (by (with_reducible repeat (first | apply Kd.R_alloc | apply Kd.R_drewN | apply Kd.R_drew)); exact HO_7.out) hb); have n2_ := Aside0.mk (Kd.R_below (by (with_reducible repeat (first | apply Kd.R_alloc | apply Kd.R_drewN | apply Kd.R_drew)); exact HO_9.out) hb); have n3_ := Aside0.mk (below_step (by repeat (first | (with_reducible first | exact HB.out | apply below_alloc | apply pw_below_drewN | apply below_drew1) | exact HB.out)) hb); clear HO_5; clear HO_7; clear HO_9; clear HB; have HO_5 := n0_; have HO_7 := n1_; have HO_9 := n2_; have HB := n3_; clear n0_ n1_ n2_ n3_; (try clear hb); (try clear hb2); (try clear hk); (try clear hi))))
                      go_ret
                      exact ⟨by first | rfl | (simp [errW_none, errW_some] <;> rfl) | (simp [*, errW_none, errW_some] <;> rfl), by repeat (first | (with_reducible first | exact HB.out | apply below_alloc | apply pw_below_drewN | apply below_drew1) | exact HB.out)⟩
                    · rw [if_neg c23] at H
                      exact absurd H (by simp)
                  · rw [if_neg c22] at H
                    have c22b0 : decide (48 < (wrap64 ((t116.length : Int) + (t120.length : Int)))) = false := decide_eq_false c22
                    clear c22
                    have HC28 := Aside0.mk H
                    clear H
                    obtain ⟨Ao29, co29, eo29⟩ := Kd.R_slice HO_5.out
                    subst eo29
                    obtain ⟨Ao30, co30, eo30⟩ := Kd.R_slice HO_7.out
                    subst eo30
                    go_upto_region 10 with (fail)
                    repeat (go_quiet (fail); go_upto_region 10 with (fail))
                    go_cut [72] (fun v72 wc => ∃ (kq : Nat) (x72_27 : Bool), v72 = .bool x72_27 ∧ Aside0 (incipitlaw09_WordsJoins.j2 kq t116 t120 t124 x72_27 = some r) ∧ Aside0 (kq ≤ kj12) ∧ Aside0 (Kd.R k36 36 wc w.heap.size (fun k_ => some k_ ≠ ((.slice Ao30 t120.length co30) : Value).ownBlock ∧ some k_ ≠ (v126 : Value).ownBlock) (.slice Ao29 t116.length co29) t116) ∧ Aside0 (Kd.R k36 36 wc w.heap.size (fun k_ => some k_ ≠ ((.slice Ao29 t116.length co29) : Value).ownBlock ∧ some k_ ≠ (v126 : Value).ownBlock) (.slice Ao30 t120.length co30) t120) ∧ Aside0 (Kd.R k36 36 wc w.heap.size (fun k_ => some k_ ≠ ((.slice Ao29 t116.length co29) : Value).ownBlock ∧ some k_ ≠ ((.slice Ao30 t120.length co30) : Value).ownBlock) v126 t124) ∧ Aside0 (Below w.heap.size w wc))
                    case first =>
                      have H := HC28.out
                      clear HC28
                      by_cases c31 : t125 = 0
                      · rw [if_pos c31] at H
                        have c31b0 : (t125 == 0) = true := beq_iff_eq.mpr c31
                        have c31b1 : (t125 != 0) = false := bne_eq_false_iff_eq.mpr c31
                        clear c31
                        (first | rw [c31b0] | (simp only [i64_w, i32_w]; rw [c31b0]) | skip)
                        have H' := Aside0.mk H
                        clear H
                        obtain ⟨Ao32, co32, eo32⟩ := Kd.R_slice HO_9.out
                        subst eo32
                        go_wp2
                        repeat (go_quiet (fail); try go_wp2)
                        go_meet
                        case rel => exact ⟨_, (((t124.length : Int) != (wrap64 ((t116.length : Int) + (t120.length : Int))))), (by first | rfl | (simp; done) | (simp [*]; done)), H', ⟨by have := HJ2.out; have := HJ12.out; first | omega | exact Nat.le_refl _⟩, ⟨by (with_reducible repeat (first | apply Kd.R_alloc | apply Kd.R_drewN | apply Kd.R_drew)); exact HO_5.out⟩, ⟨by (with_reducible repeat (first | apply Kd.R_alloc | apply Kd.R_drewN | apply Kd.R_drew)); exact HO_7.out⟩, ⟨by (with_reducible repeat (first | apply Kd.R_alloc | apply Kd.R_drewN | apply Kd.R_drew)); exact HO_9.out⟩, ⟨by repeat (first | (with_reducible first | exact HB.out | apply below_alloc | apply pw_below_drewN | apply below_drew1) | exact HB.out)⟩⟩
                      · rw [if_neg c31] at H
                        have c31b0 : (t125 == 0) = false := beq_eq_false_iff_ne.mpr c31
                        have c31b1 : (t125 != 0) = true := bne_iff_ne.mpr c31
                        (first | rw [c31b0] | (simp only [i64_w, i32_w]; rw [c31b0]) | skip)
                        have H' := Aside0.mk H
                        clear H
                        go_wp2
                        repeat (go_quiet (fail); try go_wp2)
                        go_meet
                        case rel => exact ⟨_, (true), (by first | rfl | (simp; done) | (simp [*]; done)), H', ⟨by have := HJ2.out; have := HJ12.out; first | omega | exact Nat.le_refl _⟩, ⟨by (with_reducible repeat (first | apply Kd.R_alloc | apply Kd.R_drewN | apply Kd.R_drew)); exact HO_5.out⟩, ⟨by (with_reducible repeat (first | apply Kd.R_alloc | apply Kd.R_drewN | apply Kd.R_drew)); exact HO_7.out⟩, ⟨by (with_reducible repeat (first | apply Kd.R_alloc | apply Kd.R_drewN | apply Kd.R_drew)); exact HO_9.out⟩, ⟨by repeat (first | (with_reducible first | exact HB.out | apply below_alloc | apply pw_below_drewN | apply below_drew1) | exact HB.out)⟩⟩
                    case rest =>
                      clear HC28
                      try clear c1
                      try clear c2
                      try clear p2
                      try clear c3
                      try clear c4
                      try clear c4b0
                      try clear c4b1
                      try clear c5
                      try clear p6
                      try clear c7
                      try clear c10
                      try clear c10b0
                      try clear c10b1
                      try clear c10b2
                      try clear c11
                      try clear c11b0
                      try clear c11b1
                      try clear c11b2
                      try clear c17
                      try clear c17b0
                      try clear c17b1
                      try clear c18
                      try clear c19
                      try clear c19b0
                      try clear c19b1
                      try clear c22
                      try clear c22b0
                      try clear c23
                      try clear c23b0
                      try clear c23b1
                      try clear c31
                      try clear c31b0
                      try clear c31b1
                      try clear p2
                      obtain ⟨kq, x72_27, rfl, HA, HJ27, HO_5, HO_7, HO_9, HB⟩ := hcut
                      cases kq with
                      | zero => exact absurd HA.out (by simp [incipitlaw09_WordsJoins.j2])
                      | succ kj27 =>
                        have H := HA.out
                        clear HA
                        simp only [incipitlaw09_WordsJoins.j2] at H
                        by_cases c33 : x72_27 = true
                        · subst c33
                          have H1 : (none) = some r := by rw [if_pos rfl] at H; exact H
                          clear H
                          have H := H1
                          clear H1
                          exact absurd H (by simp)
                        · replace c33 := Bool.eq_false_iff.mpr c33
                          subst c33
                          have H1 : (incipitlaw09_WordsJoins.l0 kj27 t116 t120 t124 0) = some r := by rw [if_neg (show ¬ (false = true) by decide)] at H; exact H
                          clear H
                          have H := H1
                          clear H1
                          have H' := Aside0.mk H
                          clear H
                          go_wp2
                          repeat (go_quiet (fail); try go_wp2)
                          go_loopg [11] kj27 (fun kq v11 w' => ∃ (x11_4 : Int), v11 = .int .i64 x11_4 ∧ Aside0 (incipitlaw09_WordsJoins.l0 kq t116 t120 t124 x11_4 = some r) ∧ Aside0 (kq ≤ kj27) ∧ Aside0 (Kd.R k36 36 w' w.heap.size (fun k_ => some k_ ≠ ((.slice Ao30 t120.length co30) : Value).ownBlock ∧ some k_ ≠ (v126 : Value).ownBlock) (.slice Ao29 t116.length co29) t116) ∧ Aside0 (Kd.R k36 36 w' w.heap.size (fun k_ => some k_ ≠ ((.slice Ao29 t116.length co29) : Value).ownBlock ∧ some k_ ≠ (v126 : Value).ownBlock) (.slice Ao30 t120.length co30) t120) ∧ Aside0 (Kd.R k36 36 w' w.heap.size (fun k_ => some k_ ≠ ((.slice Ao29 t116.length co29) : Value).ownBlock ∧ some k_ ≠ ((.slice Ao30 t120.length co30) : Value).ownBlock) v126 t124) ∧ Aside0 (Below w.heap.size w w'))
                          case atStart => exact ⟨(0), (by first | rfl | (simp; done) | (simp [*]; done)), H', ⟨Nat.le_refl _⟩, ⟨by (with_reducible repeat (first | apply Kd.R_alloc | apply Kd.R_drewN | apply Kd.R_drew)); exact HO_5.out⟩, ⟨by (with_reducible repeat (first | apply Kd.R_alloc | apply Kd.R_drewN | apply Kd.R_drew)); exact HO_7.out⟩, ⟨by (with_reducible repeat (first | apply Kd.R_alloc | apply Kd.R_drewN | apply Kd.R_drew)); exact HO_9.out⟩, ⟨by repeat (first | (with_reducible first | exact HB.out | apply below_alloc | apply pw_below_drewN | apply below_drew1) | exact HB.out)⟩⟩
                          case round =>
                            clear H'
                            try clear c1
                            try clear c2
                            try clear p2
                            try clear c3
                            try clear c4
                            try clear c4b0
                            try clear c4b1
                            try clear c5
                            try clear p6
                            try clear c7
                            try clear c10
                            try clear c10b0
                            try clear c10b1
                            try clear c10b2
                            try clear c11
                            try clear c11b0
                            try clear c11b1
                            try clear c11b2
                            try clear c17
                            try clear c17b0
                            try clear c17b1
                            try clear c18
                            try clear c19
                            try clear c19b0
                            try clear c19b1
                            try clear c22
                            try clear c22b0
                            try clear c23
                            try clear c23b0
                            try clear c23b1
                            try clear c31
                            try clear c31b0
                            try clear c31b1
                            try clear c33
                            try clear p2
                            try clear p6
                            obtain ⟨x11_4, rfl, HA, HK4, HO_5, HO_7, HO_9, HB⟩ := hrel
                            cases gk with
                            | zero => exact absurd HA.out (by simp [incipitlaw09_WordsJoins.l0])
                            | succ k4 =>
                              have H := HA.out
                              clear HA
                              simp only [incipitlaw09_WordsJoins.l0] at H
                              by_cases c34 : x11_4 < (t124.length : Int)
                              · rw [if_pos c34] at H
                                have c34b0 : decide (x11_4 < (t124.length : Int)) = true := decide_eq_true c34
                                clear c34
                                by_cases c35 : x11_4 < (t116.length : Int)
                                · rw [if_pos c35] at H
                                  have c35b0 : decide (x11_4 < (t116.length : Int)) = true := decide_eq_true c35
                                  clear c35
                                  by_cases c36 : 0 ≤ x11_4
                                  · rw [if_pos c36] at H
                                    have c36b0 : decide (0 ≤ x11_4) = true := decide_eq_true c36
                                    clear c36
                                    by_cases c37 : (!((((rd_T36 t124 x11_4).f0).toList) == (((rd_T36 t116 x11_4).f0).toList)) || (!(((rd_T36 t124 x11_4).f1) == ((rd_T36 t116 x11_4).f1)))) = true
                                    · rw [if_pos c37] at H
                                      exact absurd H (by simp)
                                    · rw [if_neg c37] at H
                                      have c37b0 : (!((((rd_T36 t124 x11_4).f0).toList) == (((rd_T36 t116 x11_4).f0).toList)) || (!(((rd_T36 t124 x11_4).f1) == ((rd_T36 t116 x11_4).f1)))) = false := by simpa using c37
                                      clear c37
                                      by_cases c38 : x11_4 ≥ (t116.length : Int)
                                      · rw [if_pos c38] at H
                                        have c38b0 : decide ((t116.length : Int) ≤ x11_4) = true := decide_eq_true c38
                                        clear c38
                                        obtain ⟨ji39, hji39⟩ : ∃ j_ : Int, (wrap64 (x11_4 - (t116.length : Int))) = j_ := ⟨_, rfl⟩
                                        replace H : (if 0 ≤ (ji39) then (if (ji39) < (t120.length : Int) then (if ((rd_T36 t124 x11_4).f0).toList = ((rd_T36 t120 (ji39)).f0).toList then (if ((rd_T36 t124 x11_4).f1) = x11_4 then (incipitlaw09_WordsJoins.l0 k4 t116 t120 t124 (wrap64 (x11_4 + 1))) else (none)) else (none)) else (none)) else (none)) = some r := by first | (rw [hji39] at H; exact H) | (simp only [hji39] at H ⊢; exact H)
                                        have hji39w : (IntKind.i64.wrap (x11_4 - (t116.length : Int))) = ji39 := (i64_w _).trans hji39
                                        by_cases c40 : 0 ≤ (ji39)
                                        · rw [if_pos c40] at H
                                          have c40b0 : decide (0 ≤ (ji39)) = true := decide_eq_true c40
                                          clear c40
                                          by_cases c41 : (ji39) < (t120.length : Int)
                                          · rw [if_pos c41] at H
                                            have c41b0 : decide ((ji39) < (t120.length : Int)) = true := decide_eq_true c41
                                            clear c41
                                            by_cases c42 : ((rd_T36 t124 x11_4).f0).toList = ((rd_T36 t120 (ji39)).f0).toList
                                            · rw [if_pos c42] at H
                                              have c42b0 : (((rd_T36 t124 x11_4).f0).toList == ((rd_T36 t120 (ji39)).f0).toList) = true := beq_iff_eq.mpr c42
                                              have c42b1 : (((rd_T36 t124 x11_4).f0).toList != ((rd_T36 t120 (ji39)).f0).toList) = false := bne_eq_false_iff_eq.mpr c42
                                              clear c42
                                              by_cases c43 : ((rd_T36 t124 x11_4).f1) = x11_4
                                              · rw [if_pos c43] at H
                                                have c43b0 : (((rd_T36 t124 x11_4).f1) == x11_4) = true := beq_iff_eq.mpr c43
                                                have c43b1 : (((rd_T36 t124 x11_4).f1) != x11_4) = false := bne_eq_false_iff_eq.mpr c43
                                                clear c43
                                                have H' := Aside0.mk H
                                                clear H
                                                obtain ⟨Ao44, co44, eo44⟩ := Kd.R_slice HO_9.out
                                                subst eo44
                                                have p130 : 0 ≤ (x11_4 : Int) := of_decide_eq_true (by first | (with_reducible assumption) | assumption)
                                                have q130 : x11_4 < (t124.length : Int) := of_decide_eq_true (by first | (with_reducible assumption) | assumption)
                                                obtain ⟨ad130, e130, hx130_0, hx130_1⟩ := at_T36 (Kd.R_reads' HO_9.out).2.2 x11_4 p130 q130
                                                cases e130
                                                replace p130 := eq_true p130
                                                replace q130 := eq_true q130
                                                have p131 : 0 ≤ (x11_4 : Int) := of_decide_eq_true (by first | (with_reducible assumption) | assumption)
                                                have q131 : x11_4 < (t116.length : Int) := of_decide_eq_true (by first | (with_reducible assumption) | assumption)
                                                obtain ⟨ad131, e131, hx131_0, hx131_1⟩ := at_T36 (Kd.R_reads' HO_5.out).2.2 x11_4 p131 q131
                                                cases e131
                                                replace p131 := eq_true p131
                                                replace q131 := eq_true q131
                                                have p132 : 0 ≤ (x11_4 : Int) := of_decide_eq_true (by first | (with_reducible assumption) | assumption)
                                                have q132 : x11_4 < (t124.length : Int) := of_decide_eq_true (by first | (with_reducible assumption) | assumption)
                                                obtain ⟨ad132, e132, hx132_0, hx132_1⟩ := at_T36 (Kd.R_reads' HO_9.out).2.2 x11_4 p132 q132
                                                obtain rfl : ad130 = ad132 := (by injection e132)
                                                replace p132 := eq_true p132
                                                replace q132 := eq_true q132
                                                have p133 : 0 ≤ ((ji39) : Int) := of_decide_eq_true (by first | (with_reducible assumption) | assumption)
                                                have q133 : (ji39) < (t120.length : Int) := of_decide_eq_true (by first | (with_reducible assumption) | assumption)
                                                obtain ⟨ad133, e133, hx133_0, hx133_1⟩ := at_T36 (Kd.R_reads' HO_7.out).2.2 (ji39) p133 q133
                                                cases e133
                                                replace p133 := eq_true p133
                                                replace q133 := eq_true q133
                                                have p134 : 0 ≤ (x11_4 : Int) := of_decide_eq_true (by first | (with_reducible assumption) | assumption)
                                                have q134 : x11_4 < (t124.length : Int) := of_decide_eq_true (by first | (with_reducible assumption) | assumption)
                                                obtain ⟨ad134, e134, hx134_0, hx134_1⟩ := at_T36 (Kd.R_reads' HO_9.out).2.2 x11_4 p134 q134
                                                obtain rfl : ad130 = ad134 := (by injection e134)
                                                replace p134 := eq_true p134
                                                replace q134 := eq_true q134
                                                go_wp2
                                                repeat (go_quiet (fail); try go_wp2)
                                                go_roundg k4
                                                case measure => have := HJ2.out; have := HJ12.out; have := HJ27.out; have := HK4.out; omega
                                                case rel => exact ⟨(wrap64 (x11_4 + 1)), (by first | rfl | (simp; done) | (simp [*]; done)), H', ⟨by have := HJ2.out; have := HJ12.out; have := HJ27.out; have := HK4.out; omega⟩, ⟨by (with_reducible repeat (first | apply Kd.R_alloc | apply Kd.R_drewN | apply Kd.R_drew)); exact HO_5.out⟩, ⟨by (with_reducible repeat (first | apply Kd.R_alloc | apply Kd.R_drewN | apply Kd.R_drew)); exact HO_7.out⟩, ⟨by (with_reducible repeat (first | apply Kd.R_alloc | apply Kd.R_drewN | apply Kd.R_drew)); exact HO_9.out⟩, ⟨by repeat (first | (with_reducible first | exact HB.out | apply below_alloc | apply pw_below_drewN | apply below_drew1) | exact HB.out)⟩⟩
                                              · rw [if_neg c43] at H
                                                exact absurd H (by simp)
                                            · rw [if_neg c42] at H
                                              exact absurd H (by simp)
                                          · rw [if_neg c41] at H
                                            exact absurd H (by simp)
                                        · rw [if_neg c40] at H
                                          exact absurd H (by simp)
                                      · rw [if_neg c38] at H
                                        have c38b0 : decide ((t116.length : Int) ≤ x11_4) = false := decide_eq_false c38
                                        clear c38
                                        have H' := Aside0.mk H
                                        clear H
                                        obtain ⟨Ao45, co45, eo45⟩ := Kd.R_slice HO_9.out
                                        subst eo45
                                        have p130 : 0 ≤ (x11_4 : Int) := of_decide_eq_true (by first | (with_reducible assumption) | assumption)
                                        have q130 : x11_4 < (t124.length : Int) := of_decide_eq_true (by first | (with_reducible assumption) | assumption)
                                        obtain ⟨ad130, e130, hx130_0, hx130_1⟩ := at_T36 (Kd.R_reads' HO_9.out).2.2 x11_4 p130 q130
                                        cases e130
                                        replace p130 := eq_true p130
                                        replace q130 := eq_true q130
                                        have p131 : 0 ≤ (x11_4 : Int) := of_decide_eq_true (by first | (with_reducible assumption) | assumption)
                                        have q131 : x11_4 < (t116.length : Int) := of_decide_eq_true (by first | (with_reducible assumption) | assumption)
                                        obtain ⟨ad131, e131, hx131_0, hx131_1⟩ := at_T36 (Kd.R_reads' HO_5.out).2.2 x11_4 p131 q131
                                        cases e131
                                        replace p131 := eq_true p131
                                        replace q131 := eq_true q131
                                        go_wp2
                                        repeat (go_quiet (fail); try go_wp2)
                                        go_roundg k4
                                        case measure => have := HJ2.out; have := HJ12.out; have := HJ27.out; have := HK4.out; omega
                                        case rel => exact ⟨(wrap64 (x11_4 + 1)), (by first | rfl | (simp; done) | (simp [*]; done)), H', ⟨by have := HJ2.out; have := HJ12.out; have := HJ27.out; have := HK4.out; omega⟩, ⟨by (with_reducible repeat (first | apply Kd.R_alloc | apply Kd.R_drewN | apply Kd.R_drew)); exact HO_5.out⟩, ⟨by (with_reducible repeat (first | apply Kd.R_alloc | apply Kd.R_drewN | apply Kd.R_drew)); exact HO_7.out⟩, ⟨by (with_reducible repeat (first | apply Kd.R_alloc | apply Kd.R_drewN | apply Kd.R_drew)); exact HO_9.out⟩, ⟨by repeat (first | (with_reducible first | exact HB.out | apply below_alloc | apply pw_below_drewN | apply below_drew1) | exact HB.out)⟩⟩
                                  · rw [if_neg c36] at H
                                    exact absurd H (by simp)
                                · rw [if_neg c35] at H
                                  have c35b0 : decide (x11_4 < (t116.length : Int)) = false := decide_eq_false c35
                                  clear c35
                                  by_cases c46 : x11_4 ≥ (t116.length : Int)
                                  · rw [if_pos c46] at H
                                    have c46b0 : decide ((t116.length : Int) ≤ x11_4) = true := decide_eq_true c46
                                    clear c46
                                    by_cases c47 : 0 ≤ x11_4
                                    · rw [if_pos c47] at H
                                      have c47b0 : decide (0 ≤ x11_4) = true := decide_eq_true c47
                                      clear c47
                                      obtain ⟨ji48, hji48⟩ : ∃ j_ : Int, (wrap64 (x11_4 - (t116.length : Int))) = j_ := ⟨_, rfl⟩
                                      replace H : (if 0 ≤ (ji48) then (if (ji48) < (t120.length : Int) then (if ((rd_T36 t124 x11_4).f0).toList = ((rd_T36 t120 (ji48)).f0).toList then (if ((rd_T36 t124 x11_4).f1) = x11_4 then (incipitlaw09_WordsJoins.l0 k4 t116 t120 t124 (wrap64 (x11_4 + 1))) else (none)) else (none)) else (none)) else (none)) = some r := by first | (rw [hji48] at H; exact H) | (simp only [hji48] at H ⊢; exact H)
                                      have hji48w : (IntKind.i64.wrap (x11_4 - (t116.length : Int))) = ji48 := (i64_w _).trans hji48
                                      by_cases c49 : 0 ≤ (ji48)
                                      · rw [if_pos c49] at H
                                        have c49b0 : decide (0 ≤ (ji48)) = true := decide_eq_true c49
                                        clear c49
                                        by_cases c50 : (ji48) < (t120.length : Int)
                                        · rw [if_pos c50] at H
                                          have c50b0 : decide ((ji48) < (t120.length : Int)) = true := decide_eq_true c50
                                          clear c50
                                          by_cases c51 : ((rd_T36 t124 x11_4).f0).toList = ((rd_T36 t120 (ji48)).f0).toList
                                          · rw [if_pos c51] at H
                                            have c51b0 : (((rd_T36 t124 x11_4).f0).toList == ((rd_T36 t120 (ji48)).f0).toList) = true := beq_iff_eq.mpr c51
                                            have c51b1 : (((rd_T36 t124 x11_4).f0).toList != ((rd_T36 t120 (ji48)).f0).toList) = false := bne_eq_false_iff_eq.mpr c51
                                            clear c51
                                            by_cases c52 : ((rd_T36 t124 x11_4).f1) = x11_4
                                            · rw [if_pos c52] at H
                                              have c52b0 : (((rd_T36 t124 x11_4).f1) == x11_4) = true := beq_iff_eq.mpr c52
                                              have c52b1 : (((rd_T36 t124 x11_4).f1) != x11_4) = false := bne_eq_false_iff_eq.mpr c52
                                              clear c52
                                              have H' := Aside0.mk H
                                              clear H
                                              obtain ⟨Ao53, co53, eo53⟩ := Kd.R_slice HO_9.out
                                              subst eo53
                                              have p135 : 0 ≤ (x11_4 : Int) := of_decide_eq_true (by first | (with_reducible assumption) | assumption)
                                              have q135 : x11_4 < (t124.length : Int) := of_decide_eq_true (by first | (with_reducible assumption) | assumption)
                                              obtain ⟨ad135, e135, hx135_0, hx135_1⟩ := at_T36 (Kd.R_reads' HO_9.out).2.2 x11_4 p135 q135
                                              cases e135
                                              replace p135 := eq_true p135
                                              replace q135 := eq_true q135
                                              have p136 : 0 ≤ ((ji48) : Int) := of_decide_eq_true (by first | (with_reducible assumption) | assumption)
                                              have q136 : (ji48) < (t120.length : Int) := of_decide_eq_true (by first | (with_reducible assumption) | assumption)
                                              obtain ⟨ad136, e136, hx136_0, hx136_1⟩ := at_T36 (Kd.R_reads' HO_7.out).2.2 (ji48) p136 q136
                                              cases e136
                                              replace p136 := eq_true p136
                                              replace q136 := eq_true q136
                                              have p137 : 0 ≤ (x11_4 : Int) := of_decide_eq_true (by first | (with_reducible assumption) | assumption)
                                              have q137 : x11_4 < (t124.length : Int) := of_decide_eq_true (by first | (with_reducible assumption) | assumption)
                                              obtain ⟨ad137, e137, hx137_0, hx137_1⟩ := at_T36 (Kd.R_reads' HO_9.out).2.2 x11_4 p137 q137
                                              obtain rfl : ad135 = ad137 := (by injection e137)
                                              replace p137 := eq_true p137
                                              replace q137 := eq_true q137
                                              go_wp2
                                              repeat (go_quiet (fail); try go_wp2)
                                              go_roundg k4
                                              case measure => have := HJ2.out; have := HJ12.out; have := HJ27.out; have := HK4.out; omega
                                              case rel => exact ⟨(wrap64 (x11_4 + 1)), (by first | rfl | (simp; done) | (simp [*]; done)), H', ⟨by have := HJ2.out; have := HJ12.out; have := HJ27.out; have := HK4.out; omega⟩, ⟨by (with_reducible repeat (first | apply Kd.R_alloc | apply Kd.R_drewN | apply Kd.R_drew)); exact HO_5.out⟩, ⟨by (with_reducible repeat (first | apply Kd.R_alloc | apply Kd.R_drewN | apply Kd.R_drew)); exact HO_7.out⟩, ⟨by (with_reducible repeat (first | apply Kd.R_alloc | apply Kd.R_drewN | apply Kd.R_drew)); exact HO_9.out⟩, ⟨by repeat (first | (with_reducible first | exact HB.out | apply below_alloc | apply pw_below_drewN | apply below_drew1) | exact HB.out)⟩⟩
                                            · rw [if_neg c52] at H
                                              exact absurd H (by simp)
                                          · rw [if_neg c51] at H
                                            exact absurd H (by simp)
                                        · rw [if_neg c50] at H
                                          exact absurd H (by simp)
                                      · rw [if_neg c49] at H
                                        exact absurd H (by simp)
                                    · rw [if_neg c47] at H
                                      exact absurd H (by simp)
                                  · rw [if_neg c46] at H
                                    have c46b0 : decide ((t116.length : Int) ≤ x11_4) = false := decide_eq_false c46
                                    clear c46
                                    have H' := Aside0.mk H
                                    clear H
                                    obtain ⟨Ao54, co54, eo54⟩ := Kd.R_slice HO_9.out
                                    subst eo54
                                    go_wp2
                                    repeat (go_quiet (fail); try go_wp2)
                                    go_roundg k4
                                    case measure => have := HJ2.out; have := HJ12.out; have := HJ27.out; have := HK4.out; omega
                                    case rel => exact ⟨(wrap64 (x11_4 + 1)), (by first | rfl | (simp; done) | (simp [*]; done)), H', ⟨by have := HJ2.out; have := HJ12.out; have := HJ27.out; have := HK4.out; omega⟩, ⟨by (with_reducible repeat (first | apply Kd.R_alloc | apply Kd.R_drewN | apply Kd.R_drew)); exact HO_5.out⟩, ⟨by (with_reducible repeat (first | apply Kd.R_alloc | apply Kd.R_drewN | apply Kd.R_drew)); exact HO_7.out⟩, ⟨by (with_reducible repeat (first | apply Kd.R_alloc | apply Kd.R_drewN | apply Kd.R_drew)); exact HO_9.out⟩, ⟨by repeat (first | (with_reducible first | exact HB.out | apply below_alloc | apply pw_below_drewN | apply below_drew1) | exact HB.out)⟩⟩
                              · rw [if_neg c34] at H
                                have c34b0 : decide (x11_4 < (t124.length : Int)) = false := decide_eq_false c34
                                clear c34
                                replace H := Option.bind_eq_some_iff.mp H
                                obtain ⟨t138, A550, H⟩ := H
                                replace H : (some t138) = some r := H
                                have A55 := Aside0.mk A550
                                clear A550
                                obtain rfl := Option.some.inj H
                                obtain ⟨Ao56, co56, eo56⟩ := Kd.R_slice HO_9.out
                                subst eo56
                                go_wp2_with (first | (go_at_call 10; (with_reducible refine (incipitlaw09_awake.calls  t138 _ ?side1 A55.out).mono ?_); (case side1 => repeat (first | exact (Tabs.below HLT.out HB.out) | (with_reducible refine Tabs.alloc ?_ _) | (with_reducible refine Tabs.drewN ?_ _) | (with_reducible refine Tabs.drew ?_))); rintro e w57 ⟨rfl, hb⟩; have n0_ := Aside0.mk (Kd.R_below (by (with_reducible repeat (first | apply Kd.R_alloc | apply Kd.R_drewN | apply Kd.R_drew)); exact HO_5.out) hb); have n1_ := Aside0.mk (Kd.R_below (by (with_reducible repeat (first | apply Kd.R_alloc | apply Kd.R_drewN | apply Kd.R_drew)); exact HO_7.out) hb); have n2_ := Aside0.mk (Kd.R_below (by (with_reducible repeat (first | apply Kd.R_alloc | apply Kd.R_drewN | apply Kd.R_drew)); exact HO_9.out) hb); have n3_ := Aside0.mk (below_step (by repeat (first | (with_reducible first | exact HB.out | apply below_alloc | apply pw_below_drewN | apply below_drew1) | exact HB.out)) hb); clear HO_5; clear HO_7; clear HO_9; clear HB; have HO_5 := n0_; have HO_7 := n1_; have HO_9 := n2_; have HB := n3_; clear n0_ n1_ n2_ n3_; (try clear hb); (try clear hb2); (try clear hk); (try clear hi)))
                                repeat (go_quiet (first | (go_at_call 10; (with_reducible refine (incipitlaw09_awake.calls  t138 _ ?side1 A55.out).mono ?_); (case side1 => repeat (first | exact (Tabs.below HLT.out HB.out) | (with_reducible refine Tabs.alloc ?_ _) | (with_reducible refine Tabs.drewN ?_ _) | (with_reducible refine Tabs.drew ?_))); rintro e w57 ⟨rfl, hb⟩; have n0_ := Aside0.mk (Kd.R_below (by (with_reducible repeat (first | apply Kd.R_alloc | apply Kd.R_drewN | apply Kd.R_drew)); exact HO_5.out) hb); have n1_ := Aside0.mk (Kd.R_below (by (with_reducible repeat (first | apply Kd.R_alloc | apply Kd.R_drewN | apply Kd.R_drew)); exact HO_7.out) hb); have n2_ := Aside0.mk (Kd.R_below (by (with_reducible repeat (first | apply Kd.R_alloc | apply Kd.R_drewN | apply Kd.R_drew)); exact HO_9.out) hb); have n3_ := Aside0.mk (below_step (by repeat (first | (with_reducible first | exact HB.out | apply below_alloc | apply pw_below_drewN | apply below_drew1) | exact HB.out)) hb); clear HO_5; clear HO_7; clear HO_9; clear HB; have HO_5 := n0_; have HO_7 := n1_; have HO_9 := n2_; have HB := n3_; clear n0_ n1_ n2_ n3_; (try clear hb); (try clear hb2); (try clear hk); (try clear hi))); try go_wp2_with (first | (go_at_call 10; (with_reducible refine (incipitlaw09_awake.calls  t138 _ ?side1 A55.out).mono ?_); (case side1 => repeat (first | exact (Tabs.below HLT.out HB.out) | (with_reducible refine Tabs.alloc ?_ _) | (with_reducible refine Tabs.drewN ?_ _) | (with_reducible refine Tabs.drew ?_))); rintro e w57 ⟨rfl, hb⟩; have n0_ := Aside0.mk (Kd.R_below (by (with_reducible repeat (first | apply Kd.R_alloc | apply Kd.R_drewN | apply Kd.R_drew)); exact HO_5.out) hb); have n1_ := Aside0.mk (Kd.R_below (by (with_reducible repeat (first | apply Kd.R_alloc | apply Kd.R_drewN | apply Kd.R_drew)); exact HO_7.out) hb); have n2_ := Aside0.mk (Kd.R_below (by (with_reducible repeat (first | apply Kd.R_alloc | apply Kd.R_drewN | apply Kd.R_drew)); exact HO_9.out) hb); have n3_ := Aside0.mk (below_step (by repeat (first | (with_reducible first | exact HB.out | apply below_alloc | apply pw_below_drewN | apply below_drew1) | exact HB.out)) hb); clear HO_5; clear HO_7; clear HO_9; clear HB; have HO_5 := n0_; have HO_7 := n1_; have HO_9 := n2_; have HB := n3_; clear n0_ n1_ n2_ n3_; (try clear hb); (try clear hb2); (try clear hk); (try clear hi))))
                                go_ret
                                exact ⟨by first | rfl | (simp [errW_none, errW_some] <;> rfl) | (simp [*, errW_none, errW_some] <;> rfl), by repeat (first | (with_reducible first | exact HB.out | apply below_alloc | apply pw_below_drewN | apply below_drew1) | exact HB.out)⟩
          · rw [if_neg c11] at H
            exact absurd H (by simp)
        · rw [if_neg c10] at H
          exact absurd H (by simp)

/-- THE ONE PURE STATEMENT of incipitlaw09_WordsJoins: yours. -/
def incipitlaw09_WordsJoins.Pure : Prop := ∀ (a0 : ByteArray) (a1 : ByteArray), a0.size ≤ 140737488351232 → a1.size ≤ 140737488351232 → ∃ k, incipitlaw09_WordsJoins.f k a0 a1 = some true
theorem incipitlaw09_WordsJoins.walk (P : incipitlaw09_WordsJoins.Pure) (a0 : ByteArray) (a1 : ByteArray) (w : World) (w0 : a0.size ≤ 140737488351232) (w1 : a1.size ≤ 140737488351232) (hT : Tabs w) :
    Calls Tryd.prog 7 #[.string a0, .string a1] w fun e w' => e = .returned (.bool true) ∧ Below w.heap.size w w' := by
  obtain ⟨k, h⟩ := P a0 a1 w0 w1
  refine (incipitlaw09_WordsJoins.calls k a0 a1 true w hT h).mono ?_
  rintro e w' ⟨rfl, hd⟩
  exact ⟨rfl, hd⟩

end Go.Proofs.YtjeomkojpkienaaDoorZ.ZB
