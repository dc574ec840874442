-- Laid by a program of this session (a turned copy of the print).
import Derived.Test.YtjeomkojpkienaaDoorZAx0
import Derived.Test.YtjeomkojpkienaaDoorZAx2
namespace Go.Proofs.YtjeomkojpkienaaDoorZ.ZA
open Go.RowKit Go.Proofs.YtjeomkojpkienaaDoorW.PrintWords Go.Proofs.YtjeomkojpkienaaDoorW.PrintLast Go.Proofs.YtjeomkojpkienaaDoorW.PrintMore
attribute [local go_sem] max2_int min2_int max_two min_two max_three min_three max_four min_four   -- for this text's walks alone
set_option linter.unusedVariables false
set_option linter.unusedSimpArgs false

/-! ### incipitlaw09_gap: function 17 -/
def incipitlaw09_gap.f (a0 : Int) : Option (ByteArray) := if (Go.bits .and .i64 a0 2097151) > 1114111 then (some (⟨#[32]⟩ : ByteArray)) else (if (Go.bits .and .i64 a0 2097151) ≥ 55296 then (if (Go.bits .and .i64 a0 2097151) ≤ 57343 then (some (⟨#[32]⟩ : ByteArray)) else ((utf_Letter.f (Go.bits .and .i64 a0 2097151)).bind fun t212 => (if t212 = true then (some (⟨#[32]⟩ : ByteArray)) else (some (runesBytes (([wrap32 (Go.bits .and .i64 a0 2097151)] : List Int))))))) else ((utf_Letter.f (Go.bits .and .i64 a0 2097151)).bind fun t216 => (if t216 = true then (some (⟨#[32]⟩ : ByteArray)) else (some (runesBytes (([wrap32 (Go.bits .and .i64 a0 2097151)] : List Int)))))))
set_option maxHeartbeats 8000000 in
set_option maxRecDepth 100000 in
theorem incipitlaw09_gap.calls (a0 : Int) (r : ByteArray) (w : World) (h : incipitlaw09_gap.f a0 = some r) :
    Calls Tryd.prog 17 #[.int .i64 a0] w fun e w' => e = .returned (.string r) ∧ Below w.heap.size w w' := by
  have HB := Aside0.mk (Below.refl w.heap.size w)
  have H : (if (Go.bits .and .i64 a0 2097151) > 1114111 then (some (⟨#[32]⟩ : ByteArray)) else (if (Go.bits .and .i64 a0 2097151) ≥ 55296 then (if (Go.bits .and .i64 a0 2097151) ≤ 57343 then (some (⟨#[32]⟩ : ByteArray)) else ((utf_Letter.f (Go.bits .and .i64 a0 2097151)).bind fun t212 => (if t212 = true then (some (⟨#[32]⟩ : ByteArray)) else (some (runesBytes (([wrap32 (Go.bits .and .i64 a0 2097151)] : List Int))))))) else ((utf_Letter.f (Go.bits .and .i64 a0 2097151)).bind fun t216 => (if t216 = true then (some (⟨#[32]⟩ : ByteArray)) else (some (runesBytes (([wrap32 (Go.bits .and .i64 a0 2097151)] : List Int)))))))) = some r := h
  clear h
  by_cases c2 : (Go.bits .and .i64 a0 2097151) > 1114111
  · rw [if_pos c2] at H
    have c2b0 : decide (1114111 < (Go.bits .and .i64 a0 2097151)) = true := decide_eq_true c2
    clear c2
    obtain rfl := Option.some.inj H
    go_enter Tryd.func17, Tryd.ntmps17
    go_wp2
    go_ret
    exact ⟨by first | rfl | (simp [errW_none, errW_some] <;> rfl) | (simp [*, errW_none, errW_some] <;> rfl), by repeat (first | (with_reducible first | exact HB.out | apply below_alloc | apply pw_below_drewN | apply below_drew1) | exact HB.out)⟩
  · rw [if_neg c2] at H
    have c2b0 : decide (1114111 < (Go.bits .and .i64 a0 2097151)) = false := decide_eq_false c2
    clear c2
    by_cases c3 : (Go.bits .and .i64 a0 2097151) ≥ 55296
    · rw [if_pos c3] at H
      have c3b0 : decide (55296 ≤ (Go.bits .and .i64 a0 2097151)) = true := decide_eq_true c3
      clear c3
      by_cases c4 : (Go.bits .and .i64 a0 2097151) ≤ 57343
      · rw [if_pos c4] at H
        have c4b0 : decide ((Go.bits .and .i64 a0 2097151) ≤ 57343) = true := decide_eq_true c4
        clear c4
        obtain rfl := Option.some.inj H
        go_enter Tryd.func17, Tryd.ntmps17
        go_wp2
        go_ret
        exact ⟨by first | rfl | (simp [errW_none, errW_some] <;> rfl) | (simp [*, errW_none, errW_some] <;> rfl), by repeat (first | (with_reducible first | exact HB.out | apply below_alloc | apply pw_below_drewN | apply below_drew1) | exact HB.out)⟩
      · rw [if_neg c4] at H
        have c4b0 : decide ((Go.bits .and .i64 a0 2097151) ≤ 57343) = false := decide_eq_false c4
        clear c4
        replace H := Option.bind_eq_some_iff.mp H
        obtain ⟨t212, A50, H⟩ := H
        replace H : (if t212 = true then (some (⟨#[32]⟩ : ByteArray)) else (some (runesBytes (([wrap32 (Go.bits .and .i64 a0 2097151)] : List Int))))) = some r := H
        have A5 := Aside0.mk A50
        clear A50
        by_cases c6 : t212 = true
        · subst c6
          have H1 : (some (⟨#[32]⟩ : ByteArray)) = some r := by rw [if_pos rfl] at H; exact H
          clear H
          have H := H1
          clear H1
          obtain rfl := Option.some.inj H
          go_enter Tryd.func17, Tryd.ntmps17
          go_wp2_with (first | (go_at_call 31; (with_reducible refine (utf_Letter.calls (Go.bits .and .i64 a0 2097151) true _ A5.out).mono ?_); rintro e w7 ⟨rfl, hb⟩; have n0_ := Aside0.mk (below_step (by repeat (first | (with_reducible first | exact HB.out | apply below_alloc | apply pw_below_drewN | apply below_drew1) | exact HB.out)) hb); clear HB; have HB := n0_; clear n0_; (try clear hb); (try clear hb2); (try clear hk); (try clear hi)))
          go_ret
          exact ⟨by first | rfl | (simp [errW_none, errW_some] <;> rfl) | (simp [*, errW_none, errW_some] <;> rfl), by repeat (first | (with_reducible first | exact HB.out | apply below_alloc | apply pw_below_drewN | apply below_drew1) | exact HB.out)⟩
        · replace c6 := Bool.eq_false_iff.mpr c6
          subst c6
          have H1 : (some (runesBytes (([wrap32 (Go.bits .and .i64 a0 2097151)] : List Int)))) = some r := by rw [if_neg (show ¬ (false = true) by decide)] at H; exact H
          clear H
          have H := H1
          clear H1
          obtain ⟨y213, hy213⟩ : ∃ y_ : List Int, y_ = (([wrap32 (Go.bits .and .i64 a0 2097151)] : List Int)) := ⟨_, rfl⟩
          replace H : (some (runesBytes y213)) = some r := by first | (rw [hy213]; with_reducible exact H) | (have H2_ := (Option.bind_some _ _).symm.trans H; rw [hy213]; with_reducible exact H2_) | (have H2_ := (Option.bind_some _ _).symm.trans H; with_reducible exact H2_) | with_reducible exact H | (rw [hy213]; exact H) | exact H
          have Ny213 := Aside0.mk hy213
          clear hy213
          obtain rfl := Option.some.inj H
          go_enter Tryd.func17, Tryd.ntmps17
          go_wp2_with (first | (go_at_call 31; (with_reducible refine (utf_Letter.calls (Go.bits .and .i64 a0 2097151) false _ A5.out).mono ?_); rintro e w8 ⟨rfl, hb⟩; have n0_ := Aside0.mk (below_step (by repeat (first | (with_reducible first | exact HB.out | apply below_alloc | apply pw_below_drewN | apply below_drew1) | exact HB.out)) hb); clear HB; have HB := n0_; clear n0_; (try clear hb); (try clear hb2); (try clear hk); (try clear hi)) | ((with_reducible refine gate_dst (N := 21) rfl ?_); refine Kd.R_lit (Kd.int .i32) _ 21 ?hg (N := 21) ?hd (xs := ([wrap32 (Go.bits .and .i64 a0 2097151)] : List Int)) (inner := [.int .i32 (wrap32 (Go.bits .and .i64 a0 2097151))]) (ok := fun _ => True) (okp := fun _ => True) ?hr ?hp (fun _ hk => hk) trivial (Below.refl _ _) (Nat.le_refl _) (by simp) ?_; (case hd => rfl); (case hg => rfl); (case hr => first | (go_simp; done) | (go_simp; rfl)); (case hp => exact (Reps.one (show Kd.M (Kd.int .i32) _ _ _ (wrap32 (Go.bits .and .i64 a0 2097151)) [.int .i32 (wrap32 (Go.bits .and .i64 a0 2097151))] from rfl) (Reps.none _ _))); intro v214 w9 ho10 hb hg_ hnew_; clear hg_ hnew_; (first | rw [← Ny213.out] at ho10 | (simp only [Int.reduceToNat] at ho10; rw [← Ny213.out] at ho10)); have n0_ := Aside0.mk (Kd.R_lower ho10 (below_size (by repeat (first | (with_reducible first | exact HB.out | apply below_alloc | apply pw_below_drewN | apply below_drew1) | exact HB.out)))); have n1_ := Aside0.mk (below_step (by repeat (first | (with_reducible first | exact HB.out | apply below_alloc | apply pw_below_drewN | apply below_drew1) | exact HB.out)) hb); clear HB; have HO215 := n0_; have HB := n1_; clear n0_ n1_; clear hb ho10; have hcv11 := own_string_r (P := Tryd.prog) Tryd.underlying60 Tryd.underlying21 Tryd.underlying9 (Kd.own_of_R HO215.out)))
          go_ret
          exact ⟨by first | rfl | (simp [errW_none, errW_some] <;> rfl) | (simp [*, errW_none, errW_some] <;> rfl), by repeat (first | (with_reducible first | exact HB.out | apply below_alloc | apply pw_below_drewN | apply below_drew1) | exact HB.out)⟩
    · rw [if_neg c3] at H
      have c3b0 : decide (55296 ≤ (Go.bits .and .i64 a0 2097151)) = false := decide_eq_false c3
      clear c3
      replace H := Option.bind_eq_some_iff.mp H
      obtain ⟨t216, A120, H⟩ := H
      replace H : (if t216 = true then (some (⟨#[32]⟩ : ByteArray)) else (some (runesBytes (([wrap32 (Go.bits .and .i64 a0 2097151)] : List Int))))) = some r := H
      have A12 := Aside0.mk A120
      clear A120
      by_cases c13 : t216 = true
      · subst c13
        have H1 : (some (⟨#[32]⟩ : ByteArray)) = some r := by rw [if_pos rfl] at H; exact H
        clear H
        have H := H1
        clear H1
        obtain rfl := Option.some.inj H
        go_enter Tryd.func17, Tryd.ntmps17
        go_wp2_with (first | (go_at_call 31; (with_reducible refine (utf_Letter.calls (Go.bits .and .i64 a0 2097151) true _ A12.out).mono ?_); rintro e w14 ⟨rfl, hb⟩; have n0_ := Aside0.mk (below_step (by repeat (first | (with_reducible first | exact HB.out | apply below_alloc | apply pw_below_drewN | apply below_drew1) | exact HB.out)) hb); clear HB; have HB := n0_; clear n0_; (try clear hb); (try clear hb2); (try clear hk); (try clear hi)))
        go_ret
        exact ⟨by first | rfl | (simp [errW_none, errW_some] <;> rfl) | (simp [*, errW_none, errW_some] <;> rfl), by repeat (first | (with_reducible first | exact HB.out | apply below_alloc | apply pw_below_drewN | apply below_drew1) | exact HB.out)⟩
      · replace c13 := Bool.eq_false_iff.mpr c13
        subst c13
        have H1 : (some (runesBytes (([wrap32 (Go.bits .and .i64 a0 2097151)] : List Int)))) = some r := by rw [if_neg (show ¬ (false = true) by decide)] at H; exact H
        clear H
        have H := H1
        clear H1
        obtain ⟨y217, hy217⟩ : ∃ y_ : List Int, y_ = (([wrap32 (Go.bits .and .i64 a0 2097151)] : List Int)) := ⟨_, rfl⟩
        replace H : (some (runesBytes y217)) = some r := by first | (rw [hy217]; with_reducible exact H) | (have H2_ := (Option.bind_some _ _).symm.trans H; rw [hy217]; with_reducible exact H2_) | (have H2_ := (Option.bind_some _ _).symm.trans H; with_reducible exact H2_) | with_reducible exact H | (rw [hy217]; exact H) | exact H
        have Ny217 := Aside0.mk hy217
        clear hy217
        obtain rfl := Option.some.inj H
        go_enter Tryd.func17, Tryd.ntmps17
        go_wp2_with (first | (go_at_call 31; (with_reducible refine (utf_Letter.calls (Go.bits .and .i64 a0 2097151) false _ A12.out).mono ?_); rintro e w15 ⟨rfl, hb⟩; have n0_ := Aside0.mk (below_step (by repeat (first | (with_reducible first | exact HB.out | apply below_alloc | apply pw_below_drewN | apply below_drew1) | exact HB.out)) hb); clear HB; have HB := n0_; clear n0_; (try clear hb); (try clear hb2); (try clear hk); (try clear hi)) | ((with_reducible refine gate_dst (N := 21) rfl ?_); refine Kd.R_lit (Kd.int .i32) _ 21 ?hg (N := 21) ?hd (xs := ([wrap32 (Go.bits .and .i64 a0 2097151)] : List Int)) (inner := [.int .i32 (wrap32 (Go.bits .and .i64 a0 2097151))]) (ok := fun _ => True) (okp := fun _ => True) ?hr ?hp (fun _ hk => hk) trivial (Below.refl _ _) (Nat.le_refl _) (by simp) ?_; (case hd => rfl); (case hg => rfl); (case hr => first | (go_simp; done) | (go_simp; rfl)); (case hp => exact (Reps.one (show Kd.M (Kd.int .i32) _ _ _ (wrap32 (Go.bits .and .i64 a0 2097151)) [.int .i32 (wrap32 (Go.bits .and .i64 a0 2097151))] from rfl) (Reps.none _ _))); intro v218 w16 ho17 hb hg_ hnew_; clear hg_ hnew_; (first | rw [← Ny217.out] at ho17 | (simp only [Int.reduceToNat] at ho17; rw [← Ny217.out] at ho17)); have n0_ := Aside0.mk (Kd.R_lower ho17 (below_size (by repeat (first | (with_reducible first | exact HB.out | apply below_alloc | apply pw_below_drewN | apply below_drew1) | exact HB.out)))); have n1_ := Aside0.mk (below_step (by repeat (first | (with_reducible first | exact HB.out | apply below_alloc | apply pw_below_drewN | apply below_drew1) | exact HB.out)) hb); clear HB; have HO219 := n0_; have HB := n1_; clear n0_ n1_; clear hb ho17; have hcv18 := own_string_r (P := Tryd.prog) Tryd.underlying60 Tryd.underlying21 Tryd.underlying9 (Kd.own_of_R HO219.out)))
        go_ret
        exact ⟨by first | rfl | (simp [errW_none, errW_some] <;> rfl) | (simp [*, errW_none, errW_some] <;> rfl), by repeat (first | (with_reducible first | exact HB.out | apply below_alloc | apply pw_below_drewN | apply below_drew1) | exact HB.out)⟩

end Go.Proofs.YtjeomkojpkienaaDoorZ.ZA
