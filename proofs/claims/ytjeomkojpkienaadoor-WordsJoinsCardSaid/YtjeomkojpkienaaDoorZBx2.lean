-- Laid by a program of this session (a turned copy of the print).
import Derived.Test.YtjeomkojpkienaaDoorZBx0
namespace Go.Proofs.YtjeomkojpkienaaDoorZ.ZB
open Go.RowKit Go.Proofs.YtjeomkojpkienaaDoorW.PrintWords Go.Proofs.YtjeomkojpkienaaDoorW.PrintLast Go.Proofs.YtjeomkojpkienaaDoorW.PrintMore
attribute [local go_sem] max2_int min2_int max_two min_two max_three min_three max_four min_four   -- for this text's walks alone
set_option linter.unusedVariables false
set_option linter.unusedSimpArgs false

/-! ### utf_Next: function 36 -/
section
open Go.Proofs.YtjeomkojpkienaaDoor hiding below_then below_size hid hidden add_plain
def utf_Next.f (a0 : ByteArray) (a1 : Int) : Option (Int × Int) := some (nextB a0 a1)
set_option maxHeartbeats 4000000 in
set_option maxRecDepth 100000 in
theorem utf_Next.calls (a0 : ByteArray) (a1 : Int) (r1 : Int) (r2 : Int) (w : World) (hT : Tabs w) (h : utf_Next.f a0 a1 = some (r1, r2)) :
    Calls Tryd.prog 36 #[.string a0, .int .i64 a1] w fun e w' => e = .returned (.tuple #[.int .i64 r1, .int .i64 r2]) ∧ Below w.heap.size w w' := by
  have h' := Option.some.inj h
  clear h
  by_cases h0 : a1 < 0
  · have e : nextB a0 a1 = (0, 0) := nextB_neg a0 a1 h0
    rw [e] at h'
    obtain ⟨rfl, rfl⟩ := Prod.mk.inj h'
    clear h' e
    go_enter Tryd.func36, Tryd.ntmps36
    go_wp2_with fail
    go_ret2
    exact ⟨rfl, Below.refl _ _⟩
  · by_cases h1 : a1 < (a0.size : Int)
    · obtain ⟨i, rfl⟩ := Int.eq_ofNat_of_zero_le (Int.not_lt.1 h0)
      have hi : i < a0.size := by omega
      obtain ⟨⟨R, N⟩, hd⟩ : ∃ z, Lib.decodeL ((tb a0).drop i) = z := ⟨_, rfl⟩
      obtain ⟨hr1, hr2, hr3⟩ := decodeL_bound ((tb a0).drop i)
      have hx := go_decode a0 i hi
      have cD := Tryd.utf8_DecodeRuneInString (a0.extract i a0.size) w hT
      have e : nextB a0 (i : Int) = if R = 65533 ∧ N = 1 then (0, 0) else ((R : Int), (N : Int)) := by
        rw [nextB_nat, nxt_decode _ (by intro h; have := congrArg List.length h; rw [List.length_drop, tb_length] at this; simp at this; omega), hd]
        split <;> rfl
      rw [hx] at cD
      rw [hd] at cD hr1 hr2 hr3
      simp only at cD hr1 hr2 hr3
      rw [e] at h'
      clear e hd hx
      have h3 : (i : Int) ≤ (a0.size : Int) := by omega
      by_cases hc : R = 65533 ∧ N = 1
      · rw [if_pos hc] at h'
        obtain ⟨rfl, rfl⟩ := hc
        obtain ⟨rfl, rfl⟩ := Prod.mk.inj h'
        clear h'
        go_enter Tryd.func36, Tryd.ntmps36
        go_wp2_with (go_at_call 50; refine cD.mono ?_; rintro e w1 ⟨rfl, hb⟩)
        go_ret2
        exact ⟨rfl, hb⟩
      · rw [if_neg hc] at h'
        obtain ⟨rfl, rfl⟩ := Prod.mk.inj h'
        clear h'
        by_cases hR : R = 65533
        · have hN : ¬ N = 1 := fun e => hc ⟨hR, e⟩
          subst hR
          have hN2 : decide ((N : Int) = 1) = false := by simp; omega
          have hN3 : ((N : Int) == 1) = false := by simp; omega
          clear hc hN
          go_enter Tryd.func36, Tryd.ntmps36
          go_wp2_with (go_at_call 50; refine cD.mono ?_; rintro e w1 ⟨rfl, hb⟩)
          go_ret2
          exact ⟨rfl, hb⟩
        · have hN3 : ((R : Int) == 65533) = false := by simp; omega
          clear hc hR
          go_enter Tryd.func36, Tryd.ntmps36
          go_wp2_with (go_at_call 50; refine cD.mono ?_; rintro e w1 ⟨rfl, hb⟩)
          go_ret2
          exact ⟨rfl, hb⟩
    · have e : nextB a0 a1 = (0, 0) := by
        obtain ⟨i, rfl⟩ := Int.eq_ofNat_of_zero_le (Int.not_lt.1 h0)
        exact nextB_out a0 i (by omega)
      rw [e] at h'
      obtain ⟨rfl, rfl⟩ := Prod.mk.inj h'
      clear h' e
      go_enter Tryd.func36, Tryd.ntmps36
      go_wp2_with fail
      go_ret2
      exact ⟨rfl, Below.refl _ _⟩
end


/-! ### utf_Fault: function 34 -/
section
open Go.Proofs.YtjeomkojpkienaaDoor hiding below_then below_size hid hidden add_plain
def utf_Fault.f (a0 : ByteArray) : Option Int := if a0.size ≤ 9223372036854775807 then some (faultB a0) else none
set_option maxHeartbeats 4000000 in
set_option maxRecDepth 100000 in
theorem utf_Fault.calls (a0 : ByteArray) (r : Int) (w : World) (hT : Tabs w) (h : utf_Fault.f a0 = some r) :
    Calls Tryd.prog 34 #[.string a0] w fun e w' => e = .returned (.int .i64 r) ∧ Below w.heap.size w w' := by
  unfold utf_Fault.f at h
  split at h
  case isFalse => cases h
  rename_i hsz
  have h' := Option.some.inj h
  clear h
  unfold faultB at h'
  have HR := hid h'
  have HT := hid hT
  clear h' hT
  go_enter Tryd.func34, Tryd.ntmps34
  go_wp2_with fail
  refine wp_scope_jumps 0 (fun a' w' => ∃ (k i : Nat) (u4 u5 u6 u7 u8 u9 u10 u11 u12 u13 u14 u15 u16 u17 : Value), a' = { tmps := #[.string a0, undef, .int .i64 0, .int .i64 (i : Int), u4, u5, u6, u7, u8, u9, u10, u11, u12, u13, u14, u15, u16, u17], defers := [] } ∧ Hid ((faultFrom a0 k i : Int) = r) ∧ i ≤ a0.size ∧ a0.size < i + k ∧ Below w.heap.size w w') (fun a' _ => a0.size - (intOf (a'.tmps.getD 3 undef)).toNat) rfl ?_ ?_
  · obtain ⟨⟨c, n⟩, hn⟩ : ∃ z, nextB a0 ((0 : Nat) : Int) = z := ⟨_, rfl⟩
    have hn0 := nextB_nn a0 0
    have hn1 := @nextB_le a0 0
    have hn2 := @nextB_out a0 0
    have hs0 : faultFrom a0 (a0.size + 1) 0 = if 0 < n then faultFrom a0 a0.size n.toNat else 0 := by rw [faultFrom, hn]; simp
    rw [hn] at hn0 hn1 hn2
    simp only at hn0 hn1
    have HN := hid hn
    have HS := hid hs0
    have h1 := hid hn1
    have h2 := hid hn2
    obtain ⟨h5, h6⟩ := hn0
    clear hn hs0 hn1 hn2
    go_wp2_with fail
    go_step3
    by_cases hp : 0 < n
    · have hp2 : n.toNat ≤ a0.size ∧ 0 < n.toNat := by
        refine ⟨?_, by omega⟩
        rcases Nat.lt_or_ge 0 a0.size with h | h
        · rcases h1.out h with e | ⟨_, e⟩ <;> omega
        · have := congrArg Prod.snd (h2.out h)
          simp only at this
          omega
      obtain ⟨m, rfl⟩ := Int.eq_ofNat_of_zero_le h5
      have hp3 : m ≤ a0.size := by have := hp2.1; omega
      have hp4 : 0 < m := by omega
      clear hp2
      go_wp2_with (go_at_call 36; refine (utf_Next.calls a0 0 c (m : Int) _ HT.out (congrArg some HN.out)).mono ?_; rintro e w1 ⟨rfl, hb⟩)
      go_step3
      refine ⟨rfl, a0.size, m, _, _, _, _, _, _, _, _, _, _, _, _, _, _, rfl, hid ?_, hp3, by omega, hb⟩
      rw [← HR.out, HS.out, if_pos hp]
      rfl
    · obtain rfl : n = 0 := by omega
      go_wp2_with (go_at_call 36; refine (utf_Next.calls a0 0 c 0 _ HT.out (congrArg some HN.out)).mono ?_; rintro e w1 ⟨rfl, hb⟩)
      simp only [Exit.jump]
      go_ret
      exact ⟨by rw [← HR.out, HS.out]; rfl, hb⟩
  · rintro a' w' ⟨k, i, u4, u5, u6, u7, u8, u9, u10, u11, u12, u13, u14, u15, u16, u17, rfl, hk, hi, hik, hb⟩
    obtain ⟨k, rfl⟩ : ∃ m, k = m + 1 := ⟨k - 1, by omega⟩
    obtain ⟨⟨c, n⟩, hn⟩ : ∃ z, nextB a0 (i : Int) = z := ⟨_, rfl⟩
    have hn0 := nextB_nn a0 i
    have hn1 := @nextB_le a0 i
    have hn2 := @nextB_out a0 i
    have hs0 : faultFrom a0 (k + 1) i = if 0 < n then faultFrom a0 k (i + n.toNat) else i := by rw [faultFrom, hn]
    rw [hn] at hn0 hn1 hn2
    simp only at hn0 hn1
    have HN := hid hn
    have HS := hid hs0
    have h1 := hid hn1
    have h2 := hid hn2
    obtain ⟨h5, h6⟩ := hn0
    clear hn hs0 hn1 hn2
    have HT2 := hid (Tabs.below HT.out hb)
    by_cases hp : 0 < n
    · have hp2 : i + n.toNat ≤ a0.size ∧ 0 < n.toNat := by
        refine ⟨?_, by omega⟩
        rcases Nat.lt_or_ge i a0.size with h | h
        · rcases h1.out h with e | ⟨_, e⟩ <;> omega
        · have := congrArg Prod.snd (h2.out h)
          simp only at this
          omega
      obtain ⟨m, rfl⟩ := Int.eq_ofNat_of_zero_le h5
      have hp3 : i + m ≤ a0.size := by have := hp2.1; omega
      have hp4 : 0 < m := by omega
      clear hp2
      go_wp2_with (go_at_call 36; refine (utf_Next.calls a0 (i : Int) c (m : Int) _ HT2.out (congrArg some HN.out)).mono ?_; rintro e w1 ⟨rfl, hb1⟩)
      go_step3
      refine ⟨rfl, ⟨k, i + m, _, _, _, _, _, _, _, _, _, _, _, _, _, _, rfl, hid ?_, hp3, by omega, below_then hb hb.size hb1⟩, ?_⟩
      · rw [← hk.out, HS.out, if_pos hp]
        rfl
      · simp [intOf]
        omega
    · obtain rfl : n = 0 := by omega
      go_wp2_with (go_at_call 36; refine (utf_Next.calls a0 (i : Int) c 0 _ HT2.out (congrArg some HN.out)).mono ?_; rintro e w1 ⟨rfl, hb1⟩)
      simp only [Exit.jump]
      go_ret
      exact ⟨by rw [← hk.out, HS.out]; rfl, below_then hb hb.size hb1⟩
end


/-! ### utf_May: function 25 -/
def utf_May.f (a0 : ByteArray) : Option (Bool) := (utf_Fault.f a0).bind fun t101 => (some (t101 == (a0.size : Int)))
set_option maxHeartbeats 8000000 in
set_option maxRecDepth 100000 in
theorem utf_May.calls (a0 : ByteArray) (r : Bool) (w : World) (hT : Tabs w) (h : utf_May.f a0 = some r) :
    Calls Tryd.prog 25 #[.string a0] w fun e w' => e = .returned (.bool r) ∧ Below w.heap.size w w' := by
  have HLT := Aside0.mk hT
  clear hT
  have HB := Aside0.mk (Below.refl w.heap.size w)
  have H : ((utf_Fault.f a0).bind fun t101 => (some (t101 == (a0.size : Int)))) = some r := h
  clear h
  replace H := Option.bind_eq_some_iff.mp H
  obtain ⟨t101, A20, H⟩ := H
  replace H : (some (t101 == (a0.size : Int))) = some r := H
  have A2 := Aside0.mk A20
  clear A20
  obtain rfl := Option.some.inj H
  go_enter Tryd.func25, Tryd.ntmps25
  go_wp2_with (first | ((with_reducible refine gate_callee (f := 34) rfl ?_); refine goesL_ (some 4) rfl rfl Tryd.func34 (by kernel_rfl) rfl #[.string a0] rfl (by (try simp only [List.map_toArray, List.map_cons, List.map_nil]); first | done | rfl | (simp only [List.length_drop, List.length_take]; rfl)) ?_; (with_reducible refine (utf_Fault.calls a0 t101 _ ?side1 A2.out).mono ?_); (case side1 => repeat (first | exact HLT.out | (with_reducible refine Tabs.alloc ?_ _) | (with_reducible refine Tabs.drewN ?_ _) | (with_reducible refine Tabs.drew ?_))); rintro e w3 ⟨rfl, hb⟩; refine ⟨_, rfl, ?_⟩; have n0_ := Aside0.mk (below_step (by repeat (first | (with_reducible first | exact HB.out | apply below_alloc | apply pw_below_drewN | apply below_drew1) | exact HB.out)) hb); clear HB; have HB := n0_; clear n0_; (try clear hb); (try clear hb2); (try clear hk); (try clear hi)))
  go_ret
  exact ⟨by first | rfl | (simp [errW_none, errW_some] <;> rfl) | (simp [*, errW_none, errW_some] <;> rfl), by repeat (first | (with_reducible first | exact HB.out | apply below_alloc | apply pw_below_drewN | apply below_drew1) | exact HB.out)⟩

/-! ### utf_letters: function 42 -/
def utf_letters.f  : Option ((List (S73))) := some (([(⟨48, 57⟩ : S73), (⟨65, 90⟩ : S73), (⟨97, 122⟩ : S73), (⟨170, 170⟩ : S73), (⟨181, 181⟩ : S73), (⟨186, 186⟩ : S73), (⟨192, 214⟩ : S73), (⟨216, 246⟩ : S73), (⟨248, 687⟩ : S73), (⟨768, 879⟩ : S73), (⟨880, 883⟩ : S73), (⟨886, 887⟩ : S73), (⟨891, 893⟩ : S73), (⟨895, 895⟩ : S73), (⟨902, 902⟩ : S73), (⟨904, 906⟩ : S73), (⟨908, 908⟩ : S73), (⟨910, 929⟩ : S73), (⟨931, 1153⟩ : S73), (⟨1162, 1327⟩ : S73), (⟨1329, 1366⟩ : S73), (⟨1377, 1414⟩ : S73), (⟨1488, 1514⟩ : S73), (⟨1568, 1610⟩ : S73), (⟨1632, 1641⟩ : S73), (⟨1646, 1747⟩ : S73), (⟨1776, 1785⟩ : S73), (⟨2308, 2361⟩ : S73), (⟨2406, 2415⟩ : S73), (⟨3585, 3632⟩ : S73), (⟨3648, 3654⟩ : S73), (⟨4256, 4293⟩ : S73), (⟨4304, 4346⟩ : S73), (⟨7680, 8124⟩ : S73), (⟨12353, 12438⟩ : S73), (⟨12449, 12538⟩ : S73), (⟨13312, 19903⟩ : S73), (⟨19968, 40959⟩ : S73), (⟨44032, 55203⟩ : S73), (⟨65296, 65305⟩ : S73), (⟨65313, 65338⟩ : S73), (⟨65345, 65370⟩ : S73), (⟨131072, 173791⟩ : S73)] : List (S73)))
set_option maxHeartbeats 8000000 in
set_option maxRecDepth 100000 in
theorem utf_letters.calls  (r : List (S73)) (w : World) (h : utf_letters.f  = some r) :
    Calls Tryd.prog 42 #[] w fun e w' => ∃ v0_ : Value, e = .returned (v0_) ∧ Kd.R k73 73 w' w.heap.size (fun _ => True) v0_ r ∧ Below w.heap.size w w' := by
  have hu73 := Tryd.underlying73
  have HB := Aside0.mk (Below.refl w.heap.size w)
  have H : (some (([(⟨48, 57⟩ : S73), (⟨65, 90⟩ : S73), (⟨97, 122⟩ : S73), (⟨170, 170⟩ : S73), (⟨181, 181⟩ : S73), (⟨186, 186⟩ : S73), (⟨192, 214⟩ : S73), (⟨216, 246⟩ : S73), (⟨248, 687⟩ : S73), (⟨768, 879⟩ : S73), (⟨880, 883⟩ : S73), (⟨886, 887⟩ : S73), (⟨891, 893⟩ : S73), (⟨895, 895⟩ : S73), (⟨902, 902⟩ : S73), (⟨904, 906⟩ : S73), (⟨908, 908⟩ : S73), (⟨910, 929⟩ : S73), (⟨931, 1153⟩ : S73), (⟨1162, 1327⟩ : S73), (⟨1329, 1366⟩ : S73), (⟨1377, 1414⟩ : S73), (⟨1488, 1514⟩ : S73), (⟨1568, 1610⟩ : S73), (⟨1632, 1641⟩ : S73), (⟨1646, 1747⟩ : S73), (⟨1776, 1785⟩ : S73), (⟨2308, 2361⟩ : S73), (⟨2406, 2415⟩ : S73), (⟨3585, 3632⟩ : S73), (⟨3648, 3654⟩ : S73), (⟨4256, 4293⟩ : S73), (⟨4304, 4346⟩ : S73), (⟨7680, 8124⟩ : S73), (⟨12353, 12438⟩ : S73), (⟨12449, 12538⟩ : S73), (⟨13312, 19903⟩ : S73), (⟨19968, 40959⟩ : S73), (⟨44032, 55203⟩ : S73), (⟨65296, 65305⟩ : S73), (⟨65313, 65338⟩ : S73), (⟨65345, 65370⟩ : S73), (⟨131072, 173791⟩ : S73)] : List (S73)))) = some r := h
  clear h
  obtain ⟨y102, hy102⟩ : ∃ y_ : List (S73), y_ = (([(⟨48, 57⟩ : S73), (⟨65, 90⟩ : S73), (⟨97, 122⟩ : S73), (⟨170, 170⟩ : S73), (⟨181, 181⟩ : S73), (⟨186, 186⟩ : S73), (⟨192, 214⟩ : S73), (⟨216, 246⟩ : S73), (⟨248, 687⟩ : S73), (⟨768, 879⟩ : S73), (⟨880, 883⟩ : S73), (⟨886, 887⟩ : S73), (⟨891, 893⟩ : S73), (⟨895, 895⟩ : S73), (⟨902, 902⟩ : S73), (⟨904, 906⟩ : S73), (⟨908, 908⟩ : S73), (⟨910, 929⟩ : S73), (⟨931, 1153⟩ : S73), (⟨1162, 1327⟩ : S73), (⟨1329, 1366⟩ : S73), (⟨1377, 1414⟩ : S73), (⟨1488, 1514⟩ : S73), (⟨1568, 1610⟩ : S73), (⟨1632, 1641⟩ : S73), (⟨1646, 1747⟩ : S73), (⟨1776, 1785⟩ : S73), (⟨2308, 2361⟩ : S73), (⟨2406, 2415⟩ : S73), (⟨3585, 3632⟩ : S73), (⟨3648, 3654⟩ : S73), (⟨4256, 4293⟩ : S73), (⟨4304, 4346⟩ : S73), (⟨7680, 8124⟩ : S73), (⟨12353, 12438⟩ : S73), (⟨12449, 12538⟩ : S73), (⟨13312, 19903⟩ : S73), (⟨19968, 40959⟩ : S73), (⟨44032, 55203⟩ : S73), (⟨65296, 65305⟩ : S73), (⟨65313, 65338⟩ : S73), (⟨65345, 65370⟩ : S73), (⟨131072, 173791⟩ : S73)] : List (S73))) := ⟨_, rfl⟩
  replace H : (some y102) = some r := by first | (rw [hy102]; with_reducible exact H) | (have H2_ := (Option.bind_some _ _).symm.trans H; rw [hy102]; with_reducible exact H2_) | (have H2_ := (Option.bind_some _ _).symm.trans H; with_reducible exact H2_) | with_reducible exact H | (rw [hy102]; exact H) | exact H
  have Ny102 := Aside0.mk hy102
  clear hy102
  obtain rfl := Option.some.inj H
  go_enter Tryd.func42, Tryd.ntmps42
  go_wp2_with (first | ((with_reducible refine gate_dst (N := 44) rfl ?_); refine Kd.R_lit k73 _ 73 ?hg (N := 44) ?hd (xs := ([(⟨48, 57⟩ : S73), (⟨65, 90⟩ : S73), (⟨97, 122⟩ : S73), (⟨170, 170⟩ : S73), (⟨181, 181⟩ : S73), (⟨186, 186⟩ : S73), (⟨192, 214⟩ : S73), (⟨216, 246⟩ : S73), (⟨248, 687⟩ : S73), (⟨768, 879⟩ : S73), (⟨880, 883⟩ : S73), (⟨886, 887⟩ : S73), (⟨891, 893⟩ : S73), (⟨895, 895⟩ : S73), (⟨902, 902⟩ : S73), (⟨904, 906⟩ : S73), (⟨908, 908⟩ : S73), (⟨910, 929⟩ : S73), (⟨931, 1153⟩ : S73), (⟨1162, 1327⟩ : S73), (⟨1329, 1366⟩ : S73), (⟨1377, 1414⟩ : S73), (⟨1488, 1514⟩ : S73), (⟨1568, 1610⟩ : S73), (⟨1632, 1641⟩ : S73), (⟨1646, 1747⟩ : S73), (⟨1776, 1785⟩ : S73), (⟨2308, 2361⟩ : S73), (⟨2406, 2415⟩ : S73), (⟨3585, 3632⟩ : S73), (⟨3648, 3654⟩ : S73), (⟨4256, 4293⟩ : S73), (⟨4304, 4346⟩ : S73), (⟨7680, 8124⟩ : S73), (⟨12353, 12438⟩ : S73), (⟨12449, 12538⟩ : S73), (⟨13312, 19903⟩ : S73), (⟨19968, 40959⟩ : S73), (⟨44032, 55203⟩ : S73), (⟨65296, 65305⟩ : S73), (⟨65313, 65338⟩ : S73), (⟨65345, 65370⟩ : S73), (⟨131072, 173791⟩ : S73)] : List (S73))) (inner := [.int .i32 48, .int .i32 57, .int .i32 65, .int .i32 90, .int .i32 97, .int .i32 122, .int .i32 170, .int .i32 170, .int .i32 181, .int .i32 181, .int .i32 186, .int .i32 186, .int .i32 192, .int .i32 214, .int .i32 216, .int .i32 246, .int .i32 248, .int .i32 687, .int .i32 768, .int .i32 879, .int .i32 880, .int .i32 883, .int .i32 886, .int .i32 887, .int .i32 891, .int .i32 893, .int .i32 895, .int .i32 895, .int .i32 902, .int .i32 902, .int .i32 904, .int .i32 906, .int .i32 908, .int .i32 908, .int .i32 910, .int .i32 929, .int .i32 931, .int .i32 1153, .int .i32 1162, .int .i32 1327, .int .i32 1329, .int .i32 1366, .int .i32 1377, .int .i32 1414, .int .i32 1488, .int .i32 1514, .int .i32 1568, .int .i32 1610, .int .i32 1632, .int .i32 1641, .int .i32 1646, .int .i32 1747, .int .i32 1776, .int .i32 1785, .int .i32 2308, .int .i32 2361, .int .i32 2406, .int .i32 2415, .int .i32 3585, .int .i32 3632, .int .i32 3648, .int .i32 3654, .int .i32 4256, .int .i32 4293, .int .i32 4304, .int .i32 4346, .int .i32 7680, .int .i32 8124, .int .i32 12353, .int .i32 12438, .int .i32 12449, .int .i32 12538, .int .i32 13312, .int .i32 19903, .int .i32 19968, .int .i32 40959, .int .i32 44032, .int .i32 55203, .int .i32 65296, .int .i32 65305, .int .i32 65313, .int .i32 65338, .int .i32 65345, .int .i32 65370, .int .i32 131072, .int .i32 173791]) (ok := fun _ => True) (okp := fun _ => True) ?hr ?hp (fun _ hk => hk) trivial (Below.refl _ _) (Nat.le_refl _) (by simp) ?_; (case hd => rfl); (case hg => rfl); (case hr => first | (go_simp; done) | (go_simp; rfl)); (case hp => exact (Reps.c2 (show Kd.M k73 _ _ _ (⟨48, 57⟩ : S73) [.int .i32 48, .int .i32 57] from (k73_mkM _ _ _ (⟨48, 57⟩ : S73) )) (Reps.c2 (show Kd.M k73 _ _ _ (⟨65, 90⟩ : S73) [.int .i32 65, .int .i32 90] from (k73_mkM _ _ _ (⟨65, 90⟩ : S73) )) (Reps.c2 (show Kd.M k73 _ _ _ (⟨97, 122⟩ : S73) [.int .i32 97, .int .i32 122] from (k73_mkM _ _ _ (⟨97, 122⟩ : S73) )) (Reps.c2 (show Kd.M k73 _ _ _ (⟨170, 170⟩ : S73) [.int .i32 170, .int .i32 170] from (k73_mkM _ _ _ (⟨170, 170⟩ : S73) )) (Reps.c2 (show Kd.M k73 _ _ _ (⟨181, 181⟩ : S73) [.int .i32 181, .int .i32 181] from (k73_mkM _ _ _ (⟨181, 181⟩ : S73) )) (Reps.c2 (show Kd.M k73 _ _ _ (⟨186, 186⟩ : S73) [.int .i32 186, .int .i32 186] from (k73_mkM _ _ _ (⟨186, 186⟩ : S73) )) (Reps.c2 (show Kd.M k73 _ _ _ (⟨192, 214⟩ : S73) [.int .i32 192, .int .i32 214] from (k73_mkM _ _ _ (⟨192, 214⟩ : S73) )) (Reps.c2 (show Kd.M k73 _ _ _ (⟨216, 246⟩ : S73) [.int .i32 216, .int .i32 246] from (k73_mkM _ _ _ (⟨216, 246⟩ : S73) )) (Reps.c2 (show Kd.M k73 _ _ _ (⟨248, 687⟩ : S73) [.int .i32 248, .int .i32 687] from (k73_mkM _ _ _ (⟨248, 687⟩ : S73) )) (Reps.c2 (show Kd.M k73 _ _ _ (⟨768, 879⟩ : S73) [.int .i32 768, .int .i32 879] from (k73_mkM _ _ _ (⟨768, 879⟩ : S73) )) (Reps.c2 (show Kd.M k73 _ _ _ (⟨880, 883⟩ : S73) [.int .i32 880, .int .i32 883] from (k73_mkM _ _ _ (⟨880, 883⟩ : S73) )) (Reps.c2 (show Kd.M k73 _ _ _ (⟨886, 887⟩ : S73) [.int .i32 886, .int .i32 887] from (k73_mkM _ _ _ (⟨886, 887⟩ : S73) )) (Reps.c2 (show Kd.M k73 _ _ _ (⟨891, 893⟩ : S73) [.int .i32 891, .int .i32 893] from (k73_mkM _ _ _ (⟨891, 893⟩ : S73) )) (Reps.c2 (show Kd.M k73 _ _ _ (⟨895, 895⟩ : S73) [.int .i32 895, .int .i32 895] from (k73_mkM _ _ _ (⟨895, 895⟩ : S73) )) (Reps.c2 (show Kd.M k73 _ _ _ (⟨902, 902⟩ : S73) [.int .i32 902, .int .i32 902] from (k73_mkM _ _ _ (⟨902, 902⟩ : S73) )) (Reps.c2 (show Kd.M k73 _ _ _ (⟨904, 906⟩ : S73) [.int .i32 904, .int .i32 906] from (k73_mkM _ _ _ (⟨904, 906⟩ : S73) )) (Reps.c2 (show Kd.M k73 _ _ _ (⟨908, 908⟩ : S73) [.int .i32 908, .int .i32 908] from (k73_mkM _ _ _ (⟨908, 908⟩ : S73) )) (Reps.c2 (show Kd.M k73 _ _ _ (⟨910, 929⟩ : S73) [.int .i32 910, .int .i32 929] from (k73_mkM _ _ _ (⟨910, 929⟩ : S73) )) (Reps.c2 (show Kd.M k73 _ _ _ (⟨931, 1153⟩ : S73) [.int .i32 931, .int .i32 1153] from (k73_mkM _ _ _ (⟨931, 1153⟩ : S73) )) (Reps.c2 (show Kd.M k73 _ _ _ (⟨1162, 1327⟩ : S73) [.int .i32 1162, .int .i32 1327] from (k73_mkM _ _ _ (⟨1162, 1327⟩ : S73) )) (Reps.c2 (show Kd.M k73 _ _ _ (⟨1329, 1366⟩ : S73) [.int .i32 1329, .int .i32 1366] from (k73_mkM _ _ _ (⟨1329, 1366⟩ : S73) )) (Reps.c2 (show Kd.M k73 _ _ _ (⟨1377, 1414⟩ : S73) [.int .i32 1377, .int .i32 1414] from (k73_mkM _ _ _ (⟨1377, 1414⟩ : S73) )) (Reps.c2 (show Kd.M k73 _ _ _ (⟨1488, 1514⟩ : S73) [.int .i32 1488, .int .i32 1514] from (k73_mkM _ _ _ (⟨1488, 1514⟩ : S73) )) (Reps.c2 (show Kd.M k73 _ _ _ (⟨1568, 1610⟩ : S73) [.int .i32 1568, .int .i32 1610] from (k73_mkM _ _ _ (⟨1568, 1610⟩ : S73) )) (Reps.c2 (show Kd.M k73 _ _ _ (⟨1632, 1641⟩ : S73) [.int .i32 1632, .int .i32 1641] from (k73_mkM _ _ _ (⟨1632, 1641⟩ : S73) )) (Reps.c2 (show Kd.M k73 _ _ _ (⟨1646, 1747⟩ : S73) [.int .i32 1646, .int .i32 1747] from (k73_mkM _ _ _ (⟨1646, 1747⟩ : S73) )) (Reps.c2 (show Kd.M k73 _ _ _ (⟨1776, 1785⟩ : S73) [.int .i32 1776, .int .i32 1785] from (k73_mkM _ _ _ (⟨1776, 1785⟩ : S73) )) (Reps.c2 (show Kd.M k73 _ _ _ (⟨2308, 2361⟩ : S73) [.int .i32 2308, .int .i32 2361] from (k73_mkM _ _ _ (⟨2308, 2361⟩ : S73) )) (Reps.c2 (show Kd.M k73 _ _ _ (⟨2406, 2415⟩ : S73) [.int .i32 2406, .int .i32 2415] from (k73_mkM _ _ _ (⟨2406, 2415⟩ : S73) )) (Reps.c2 (show Kd.M k73 _ _ _ (⟨3585, 3632⟩ : S73) [.int .i32 3585, .int .i32 3632] from (k73_mkM _ _ _ (⟨3585, 3632⟩ : S73) )) (Reps.c2 (show Kd.M k73 _ _ _ (⟨3648, 3654⟩ : S73) [.int .i32 3648, .int .i32 3654] from (k73_mkM _ _ _ (⟨3648, 3654⟩ : S73) )) (Reps.c2 (show Kd.M k73 _ _ _ (⟨4256, 4293⟩ : S73) [.int .i32 4256, .int .i32 4293] from (k73_mkM _ _ _ (⟨4256, 4293⟩ : S73) )) (Reps.c2 (show Kd.M k73 _ _ _ (⟨4304, 4346⟩ : S73) [.int .i32 4304, .int .i32 4346] from (k73_mkM _ _ _ (⟨4304, 4346⟩ : S73) )) (Reps.c2 (show Kd.M k73 _ _ _ (⟨7680, 8124⟩ : S73) [.int .i32 7680, .int .i32 8124] from (k73_mkM _ _ _ (⟨7680, 8124⟩ : S73) )) (Reps.c2 (show Kd.M k73 _ _ _ (⟨12353, 12438⟩ : S73) [.int .i32 12353, .int .i32 12438] from (k73_mkM _ _ _ (⟨12353, 12438⟩ : S73) )) (Reps.c2 (show Kd.M k73 _ _ _ (⟨12449, 12538⟩ : S73) [.int .i32 12449, .int .i32 12538] from (k73_mkM _ _ _ (⟨12449, 12538⟩ : S73) )) (Reps.c2 (show Kd.M k73 _ _ _ (⟨13312, 19903⟩ : S73) [.int .i32 13312, .int .i32 19903] from (k73_mkM _ _ _ (⟨13312, 19903⟩ : S73) )) (Reps.c2 (show Kd.M k73 _ _ _ (⟨19968, 40959⟩ : S73) [.int .i32 19968, .int .i32 40959] from (k73_mkM _ _ _ (⟨19968, 40959⟩ : S73) )) (Reps.c2 (show Kd.M k73 _ _ _ (⟨44032, 55203⟩ : S73) [.int .i32 44032, .int .i32 55203] from (k73_mkM _ _ _ (⟨44032, 55203⟩ : S73) )) (Reps.c2 (show Kd.M k73 _ _ _ (⟨65296, 65305⟩ : S73) [.int .i32 65296, .int .i32 65305] from (k73_mkM _ _ _ (⟨65296, 65305⟩ : S73) )) (Reps.c2 (show Kd.M k73 _ _ _ (⟨65313, 65338⟩ : S73) [.int .i32 65313, .int .i32 65338] from (k73_mkM _ _ _ (⟨65313, 65338⟩ : S73) )) (Reps.c2 (show Kd.M k73 _ _ _ (⟨65345, 65370⟩ : S73) [.int .i32 65345, .int .i32 65370] from (k73_mkM _ _ _ (⟨65345, 65370⟩ : S73) )) (Reps.c2 (show Kd.M k73 _ _ _ (⟨131072, 173791⟩ : S73) [.int .i32 131072, .int .i32 173791] from (k73_mkM _ _ _ (⟨131072, 173791⟩ : S73) )) (Reps.none _ _))))))))))))))))))))))))))))))))))))))))))))); intro v103 w1 ho2 hb hg_ hnew_; clear hg_ hnew_; (first | rw [← Ny102.out] at ho2 | (simp only [Int.reduceToNat] at ho2; rw [← Ny102.out] at ho2)); have n0_ := Aside0.mk (Kd.R_lower ho2 (below_size (by repeat (first | (with_reducible first | exact HB.out | apply below_alloc | apply pw_below_drewN | apply below_drew1) | exact HB.out)))); have n1_ := Aside0.mk (below_step (by repeat (first | (with_reducible first | exact HB.out | apply below_alloc | apply pw_below_drewN | apply below_drew1) | exact HB.out)) hb); clear HB; have HO104 := n0_; have HB := n1_; clear n0_ n1_; clear hb ho2))
  go_ret
  exact ⟨_, by first | rfl | (simp [errW_none, errW_some] <;> rfl) | (simp [*, errW_none, errW_some] <;> rfl), by (with_reducible repeat (first | apply Kd.R_alloc | apply Kd.R_drewN | apply Kd.R_drew)); exact HO104.out, by repeat (first | (with_reducible first | exact HB.out | apply below_alloc | apply pw_below_drewN | apply below_drew1) | exact HB.out)⟩

/-! ### utf_Letter: function 31 -/
section
open Go.Proofs.YtjeomkojpkienaaDoor hiding below_then below_size hid hidden add_plain
/-- The closure: -1: the span lies below c; 1: above; 0: c is in it. -/
def spanCmp (x : S73) (c : Int) : Int := if x.f1 < c then -1 else if x.f0 > c then 1 else 0
theorem span_calls (x : S73) (c : Int) (w : World) (h0 : 0 ≤ x.f0) (h01 : x.f0 ≤ 1114111) (h10 : 0 ≤ x.f1) (h11 : x.f1 ≤ 1114111) : Calls Tryd.prog 44 #[.agg #[.int .i32 x.f0, .int .i32 x.f1], .int .i64 c] w fun e w' => e = .returned (.int .i64 (spanCmp x c)) ∧ Below w.heap.size w w' := by
  have hb : Below w.heap.size w (w.alloc (.cells #[.int .i32 x.f0, .int .i32 x.f1] 73)) := (Below.refl _ _).alloc (Nat.le_refl _) _
  by_cases h1 : x.f1 < c
  · go_enter Tryd.func44, Tryd.ntmps44
    go_wp2
    go_ret
    exact ⟨by simp [spanCmp, h1], hb⟩
  · by_cases h2 : x.f0 > c
    · go_enter Tryd.func44, Tryd.ntmps44
      go_wp2
      go_ret
      exact ⟨by simp [spanCmp, h1, h2], hb⟩
    · go_enter Tryd.func44, Tryd.ntmps44
      go_wp2
      go_ret
      exact ⟨by rw [spanCmp, if_neg (by omega), if_neg (by omega)]; rfl, hb⟩
theorem spanCmp_lt (x : S73) (c : Int) : spanCmp x c < 0 ↔ x.f1 < c := by
  unfold spanCmp
  split
  · rename_i h; simp [h]
  · split <;> simp <;> omega
theorem spanCmp_eq (x : S73) (c : Int) : spanCmp x c = 0 ↔ x.f0 ≤ c ∧ c ≤ x.f1 := by
  unfold spanCmp
  split
  · simp; omega
  · split <;> simp <;> omega
/-- The spans rise. -/
def Rising (l : List S73) : Prop := (∀ i, i < l.length → 0 ≤ (rd_T73 l i).f0 ∧ (rd_T73 l i).f1 ≤ 1114111 ∧ (rd_T73 l i).f0 ≤ (rd_T73 l i).f1) ∧ ∀ i j, i < j → j < l.length → (rd_T73 l i).f1 < (rd_T73 l j).f0
def inSpans (l : List S73) (c : Int) : Bool := l.any fun x => decide (x.f0 ≤ c) && decide (c ≤ x.f1)
theorem span_at (l : List S73) (m : Nat) (h : m < l.length) : rd_T73 l (m : Int) = l[m] := by
  unfold rd_T73
  simp [h]
theorem in_at {l : List S73} {c : Int} (hs : Rising l) (i : Nat) (hi : i < l.length) (h : (∀ m : Nat, m < i → (rd_T73 l m).f1 < c) ∧ (∀ m : Nat, i ≤ m → m < l.length → c ≤ (rd_T73 l m).f1)) :
    inSpans l c = decide (spanCmp (rd_T73 l i) c = 0) := by
  unfold inSpans
  rw [Bool.eq_iff_iff, List.any_eq_true]
  simp only [Bool.and_eq_true, decide_eq_true_eq, spanCmp_eq]
  constructor
  · rintro ⟨x, hx, h1, h2⟩
    obtain ⟨k, hk, rfl⟩ := List.mem_iff_getElem.1 hx
    rw [← span_at l k hk] at h1 h2
    rcases Nat.lt_trichotomy k i with h3 | h3 | h3
    · have := h.1 k h3; omega
    · subst h3; exact ⟨h1, h2⟩
    · have h4 := hs.2 i k h3 hk
      have h5 := h.2 i (Nat.le_refl _) hi
      omega
  · intro h1
    exact ⟨l[i], List.getElem_mem hi, by rw [← span_at l i hi]; exact h1⟩
theorem in_none {l : List S73} {c : Int} (hs : Rising l) (h : ∀ m : Nat, m < l.length → (rd_T73 l m).f1 < c) : inSpans l c = false := by
  unfold inSpans
  rw [List.any_eq_false]
  intro x hx
  obtain ⟨k, hk, rfl⟩ := List.mem_iff_getElem.1 hx
  have := h k hk
  rw [span_at l k hk] at this
  simp; omega
set_option maxHeartbeats 4000000 in
set_option maxRecDepth 100000 in
theorem bsf_calls (A0 : Option Addr) (c0 : Nat) (l : List S73) (c : Int) (w : World) (hr : Kd.C k73 w A0 l.length l) (hl : l.length ≤ 1000) (hs : Rising l) :
    Calls Tryd.prog 43 #[.slice A0 l.length c0, .int .i64 c, .func (.func 44) #[] #[]] w fun e w' => (∃ i : Int, e = .returned (.tuple #[.int .i64 i, .bool (inSpans l c)])) ∧ Below w.heap.size w w' := by
  have HR := Aside0.mk hr
  have HS := Aside0.mk hs
  clear hr hs
  go_enter Tryd.func43, Tryd.ntmps43
  go_wp2_with fail
  go_loopw [9, 10] (fun vi vj wr => ∃ i j : Nat, i ≤ j ∧ j ≤ l.length ∧ vi = .int .i64 (i : Int) ∧ vj = .int .i64 (j : Int) ∧ Hid ((∀ m, m < i → (rd_T73 l m).f1 < c) ∧ (∀ m, j ≤ m → m < l.length → c ≤ (rd_T73 l m).f1)) ∧ Below w.heap.size w wr) (fun vi vj _ => ((intOf vj).toNat - (intOf vi).toNat))
  case atStart => exact ⟨0, l.length, Nat.zero_le _, Nat.le_refl _, rfl, rfl, hid ⟨fun m hm => absurd hm (Nat.not_lt_zero _), fun m h1 h2 => absurd h2 (Nat.not_lt.2 h1)⟩, Below.refl _ _⟩
  case round =>
    obtain ⟨i, j, hij, hj, rfl, rfl, hI, hb⟩ := hrel
    by_cases hlt : i < j
    · obtain ⟨m, hm⟩ : ∃ m : Nat, m = (i + j) / 2 := ⟨_, rfl⟩
      have hm1 : i ≤ m := by omega
      have hm2 : m < j := by omega
      have p1 : (0 : Int) ≤ ((i : Int) + (j : Int)) / 2 := by omega
      have p2 : ((i : Int) + (j : Int)) / 2 < (l.length : Int) := by omega
      obtain ⟨ad, e1, hx0, hx1⟩ := at_T73 (Kd.C_below HR.out hb) (((i : Int) + (j : Int)) / 2) p1 p2
      subst e1
      have e2 : (((i : Int) + (j : Int)) / 2).toNat = (i + j) / 2 := by omega
      rw [e2] at hx0 hx1
      clear e2
      have hm3 : (((i : Int) + (j : Int)) / 2) = (m : Int) := by omega
      obtain ⟨b1, b2, b3⟩ := HS.out.1 m (by omega)
      have hin := hid (show 0 ≤ (rd_T73 l m).f0 ∧ (rd_T73 l m).f1 ≤ 1114111 ∧ (rd_T73 l m).f0 ≤ (rd_T73 l m).f1 from ⟨b1, b2, b3⟩)
      have hmm := hid hm3
      clear b1 b2 b3 hm3
      have HN := hid (spanCmp_lt (rd_T73 l (((i : Int) + (j : Int)) / 2)) c)
      replace p1 := eq_true p1
      replace p2 := eq_true p2
      go_wp2_with (go_at_call 44; ((with_reducible refine (span_calls _ _ _ ?s1 ?s2 ?s3 ?s4).mono ?_); (case s1 => have := hin.out; rw [hmm.out]; omega); (case s2 => have := hin.out; rw [hmm.out]; omega); (case s3 => have := hin.out; rw [hmm.out]; omega); (case s4 => have := hin.out; rw [hmm.out]; omega)); rintro e w1 ⟨rfl, hb1⟩)
      · have hlt2 : spanCmp (rd_T73 l (((i : Int) + (j : Int)) / 2)) c < 0 := by assumption
        have hcm := HN.out.1 hlt2
        rw [hmm.out] at hcm
        go_roundw
        case rel =>
          refine ⟨m + 1, j, by omega, hj, by rw [hmm.out]; go_num, rfl, hid ⟨fun k hk => ?_, hI.out.2⟩, below_then hb hb.size hb1⟩
          rcases Nat.lt_or_ge k i with h | h
          · exact hI.out.1 k h
          · rcases Nat.eq_or_lt_of_le (Nat.le_of_lt_succ hk) with h2 | h2
            · rw [h2]; exact hcm
            · have h3 := HS.out.2 k m h2 (by omega)
              have h4 := (HS.out.1 m (by omega)).2.2
              omega
        case measure => simp [intOf]; omega
      · have hlt2 : ¬ spanCmp (rd_T73 l (((i : Int) + (j : Int)) / 2)) c < 0 := by omega
        have hcm := mt HN.out.2 hlt2
        rw [hmm.out] at hcm
        go_roundw
        case rel =>
          refine ⟨i, m, hm1, by omega, rfl, by rw [hmm.out], hid ⟨hI.out.1, fun k hk hk2 => ?_⟩, below_then hb hb.size hb1⟩
          rcases Nat.eq_or_lt_of_le hk with h2 | h2
          · rw [← h2]; omega
          · have h3 := HS.out.2 m k h2 hk2
            have h4 := (HS.out.1 k hk2).2.2
            omega
        case measure => simp [intOf]; omega
    · obtain rfl : i = j := by omega
      by_cases hin : i < l.length
      · have p1 : (0 : Int) ≤ (i : Int) := by omega
        have p2 : (i : Int) < (l.length : Int) := by omega
        obtain ⟨ad, e1, hx0, hx1⟩ := at_T73 (Kd.C_below HR.out hb) (i : Int) p1 p2
        subst e1
        have e2 : ((i : Int)).toNat = i := by omega
        rw [e2] at hx0 hx1
        clear e2
        obtain ⟨b1, b2, b3⟩ := HS.out.1 i hin
        have HN := hid (spanCmp_eq (rd_T73 l (i : Int)) c)
        have hB := hid (in_at HS.out i hin hI.out)
        clear p1
        replace p2 := eq_true p2
        have hin2 := hid hin
        go_wp2_with (go_at_call 44; ((with_reducible refine (span_calls _ _ _ ?s1 ?s2 ?s3 ?s4).mono ?_); (case s1 => omega); (case s2 => omega); (case s3 => omega); (case s4 => omega)); rintro e w1 ⟨rfl, hb1⟩)
        refine bodyPost_ret (v := .tuple #[.int .i64 i, .bool (inSpans l c)]) ?_ rfl ⟨⟨_, rfl⟩, below_then hb hb.size hb1⟩
        rw [hB.out]
        simp [results, go_sem]
        rw [Bool.eq_iff_iff]
        simp
      · have hB := hid (in_none HS.out (c := c) (fun m hm => hI.out.1 m (by omega)))
        go_wp2_with fail
        refine bodyPost_ret (v := .tuple #[.int .i64 i, .bool (inSpans l c)]) ?_ rfl ⟨⟨_, rfl⟩, hb⟩
        rw [hB.out]
        simp [results, go_sem]
def letterSpans : List S73 := (utf_letters.f).getD []
theorem letterSpans_in (c : Int) : inSpans letterSpans c = letterB c := by
  have e : letters = letterSpans.map fun x => (x.f0, x.f1) := by decide +kernel
  unfold letterB inPairs inSpans
  rw [e, List.any_map]
  rfl
def risingB : List S73 → Bool
  | [] => true
  | x :: r => decide (0 ≤ x.f0) && decide (x.f1 ≤ 1114111) && decide (x.f0 ≤ x.f1) && r.all (fun y => decide (x.f1 < y.f0)) && risingB r
theorem rising_of : ∀ (l : List S73), risingB l = true → Rising l
  | [], _ => ⟨fun i h => absurd h (Nat.not_lt_zero i), fun i j _ h => absurd h (Nat.not_lt_zero j)⟩
  | x :: r, h => by
    simp only [risingB, Bool.and_eq_true, decide_eq_true_eq, List.all_eq_true] at h
    obtain ⟨⟨⟨⟨h1, h2⟩, h3⟩, h4⟩, h5⟩ := h
    obtain ⟨i1, i2⟩ := rising_of r h5
    have e : ∀ i : Nat, rd_T73 (x :: r) ((i + 1 : Nat) : Int) = rd_T73 r (i : Int) := fun i => by simp [rd_T73]
    have e0 : rd_T73 (x :: r) ((0 : Nat) : Int) = x := rfl
    refine ⟨fun i hi => ?_, fun i j hij hj => ?_⟩
    · cases i with
      | zero => rw [e0]; exact ⟨h1, h2, h3⟩
      | succ i => rw [e]; exact i1 i (by simpa using hi)
    · cases j with
      | zero => exact absurd hij (Nat.not_lt_zero i)
      | succ j =>
        have hj' : j < r.length := by simpa using hj
        rw [e]
        cases i with
        | zero => rw [e0, span_at r j hj']; exact h4 _ (List.getElem_mem hj')
        | succ i => rw [e]; exact i2 i j (by omega) hj'
def utf_Letter.f (a0 : Int) : Option Bool := some (letterB a0)
set_option maxHeartbeats 4000000 in
set_option maxRecDepth 100000 in
theorem utf_Letter.calls (a0 : Int) (r : Bool) (w : World) (h : utf_Letter.f a0 = some r) :
    Calls Tryd.prog 31 #[.int .i64 a0] w fun e w' => e = .returned (.bool r) ∧ Below w.heap.size w w' := by
  simp only [utf_Letter.f, Option.some.injEq] at h
  subst h
  have hl : utf_letters.f = some letterSpans := rfl
  have hr : Rising letterSpans := rising_of _ (by decide +kernel)
  have hn : letterSpans.length ≤ 1000 := by decide +kernel
  rw [← letterSpans_in]
  generalize letterSpans = L at hl hr hn ⊢
  have HL := hid hl
  have HRi := hid hr
  clear hl hr
  go_enter Tryd.func31, Tryd.ntmps31
  go_wp2_with (go_at_call 42; refine (utf_letters.calls L _ HL.out).mono ?_; rintro e w1 ⟨v, rfl, ho, hb⟩; obtain ⟨A, cp, rfl, hlc, hC⟩ := Kd.R_reads ho; have HC := hid hC; clear hC ho)
  refine (bsf_calls A cp L a0 _ HC.out hn HRi.out).mono ?_
  rintro e w2 ⟨⟨i, rfl⟩, hb2⟩
  go_wp2_with fail
  go_ret
  exact ⟨rfl, below_then hb hb.size hb2⟩
end


/-! ### utf_Small: function 18 -/
section
open Go.Proofs.YtjeomkojpkienaaDoor hiding below_then below_size hid hidden add_plain
/-- The bytes when k of them have been made small. -/
def mixB (xs : List UInt8) (k j : Nat) : Int := ((if j < k then lowB (xs.getD j 0) else xs.getD j 0).toNat : Int)
theorem mixB_lt (xs : List UInt8) (k j : Nat) : 0 ≤ mixB xs k j ∧ mixB xs k j ≤ 255 := by
  unfold mixB
  split
  · have := UInt8.toNat_lt (lowB (xs.getD j 0)); omega
  · have := UInt8.toNat_lt (xs.getD j 0); omega
theorem mixB_step (xs : List UInt8) (k j : Nat) (h : j ≠ k) : mixB xs (k + 1) j = mixB xs k j := by
  unfold mixB
  by_cases h2 : j < k
  · rw [if_pos h2, if_pos (by omega)]
  · rw [if_neg h2, if_neg (by omega)]
theorem mixB_at (xs : List UInt8) (k : Nat) : mixB xs k k = ((xs.getD k 0).toNat : Int) := by unfold mixB; rw [if_neg (Nat.lt_irrefl k)]
theorem mixB_next (xs : List UInt8) (k : Nat) : mixB xs (k + 1) k = ((lowB (xs.getD k 0)).toNat : Int) := by unfold mixB; rw [if_pos (Nat.lt_succ_self k)]
theorem mixB_low (xs : List UInt8) (k : Nat) (h1 : 65 ≤ mixB xs k k) (h2 : mixB xs k k ≤ 90) : mixB xs (k + 1) k = mixB xs k k + 32 := by
  rw [mixB_at] at *
  rw [mixB_next, lowB_nat, if_pos (by omega)]
  omega
theorem mixB_same (xs : List UInt8) (k : Nat) (h : mixB xs k k < 65 ∨ 90 < mixB xs k k) : mixB xs (k + 1) k = mixB xs k k := by
  rw [mixB_at] at *
  rw [mixB_next, lowB_nat, if_neg (by omega)]
theorem str_new {P : Program} (w : World) (src dst e : TypeId) (s : ByteArray) (hm : s.size ≤ 140737488355328) (hs : P.underlying src = some .string) (hd : P.underlying dst = some (.slice e)) (he : P.underlying e = some (.int .u8)) :
    ∃ c w', (convert src dst (.string s)).run P w = .ok (.slice (some ⟨w.heap.size, 0, none⟩) s.size c) w' ∧ s.size ≤ c ∧ c ≤ maxLen ∧ (∀ j, j < s.size → w'.cell? ⟨w.heap.size, j, none⟩ = some (.int .u8 (mixB (tb s) 0 j)) ∧ w'.frozen? ⟨w.heap.size, j, none⟩ = false) ∧ Below w.heap.size w w' ∧ w'.heap.size = w.heap.size + 1 := by
  refine ⟨_, _, Lib.run_convert_string_bytes w src dst e s hs hd he, grownCap_ge _ _ _ _, grownCap_le_maxLen _ _ _ _ (by unfold maxLen; omega), fun j hj => ⟨?_, ?_⟩, ⟨rfl, rfl, rfl, by rw [Lib.bytesWorld_size]; omega, fun j hj => Lib.bytesWorld_at_old w e s j hj⟩, Lib.bytesWorld_size w e s⟩
  · rw [Lib.bytesWorld_cell w e s j hj]
    unfold mixB
    rw [if_neg (Nat.not_lt_zero j)]
    rfl
  · have hsz : s.size ≤ (Lib.bytesCells w e s).size := by
      simp only [Lib.bytesCells, Array.size_append, List.size_toArray, List.length_map, Array.length_toList]
      rw [Array.size_map]
      exact Nat.le_add_right _ _
    simp [World.frozen?, Lib.bytesWorld_at_new]
    omega
theorem small_rv (s : ByteArray) (g n c : Nat) (wr : World) (hc1 : s.size ≤ c) (hc2 : c ≤ maxLen) (hI : ∀ j, j < s.size → wr.cell? ⟨g, j, none⟩ = some (.int .u8 (mixB (tb s) s.size j))) :
    RV wr (.slice (some ⟨g, 0, none⟩) s.size c) s.size 1 (bs (smallL (tb s))) := by
  have hl : (smallL (tb s)).length = s.size := by rw [smallL, List.length_map, tb_length]
  refine ⟨by rw [bs_length, hl]; omega, _, _, rfl, hc1, hc2, fun _ => ⟨g, 0, rfl, fun j u hj => ?_⟩⟩
  have hj2 : j < (smallL (tb s)).length := by have := (List.getElem?_eq_some_iff.1 hj).1; rwa [bs_length] at this
  rw [bs_at _ j hj2] at hj
  have hj3 : j < (tb s).length := by rw [tb_length]; omega
  obtain rfl := Option.some.inj hj
  rw [Nat.zero_add, hI j (by omega)]
  unfold mixB
  rw [if_pos (by omega), List.getD_eq_getElem?_getD, List.getElem?_eq_getElem hj3]
  simp [smallL]
def utf_Small.f (a0 : ByteArray) : Option ByteArray := if a0.size ≤ 140737488355328 then some (smallT a0) else none
set_option maxHeartbeats 4000000 in
set_option maxRecDepth 100000 in
theorem utf_Small.calls (a0 : ByteArray) (r : ByteArray) (w : World) (h : utf_Small.f a0 = some r) :
    Calls Tryd.prog 18 #[.string a0] w fun e w' => e = .returned (.string r) ∧ Below w.heap.size w w' := by
  unfold utf_Small.f at h
  split at h
  case isFalse => cases h
  rename_i hsz
  obtain rfl := Option.some.inj h
  clear h
  obtain ⟨c, w1, hrun, hc1, hc2, hcell, hb1, hz1⟩ := str_new (P := Tryd.prog) w 9 61 5 a0 hsz Tryd.underlying9 Tryd.underlying61 Tryd.underlying5
  obtain ⟨n, hn⟩ : ∃ n, n = a0.size := ⟨_, rfl⟩
  have HC := hid hcell
  have HZ := hid hz1
  have HSm := hid (rfl : smallT a0 = st (smallL (tb a0)))
  clear hcell hz1
  go_enter Tryd.func18, Tryd.ntmps18
  go_wp2_with fail
  clear hrun
  go_loopw [10] (fun i wr => ∃ k : Nat, k ≤ a0.size ∧ i = .int .i64 (k : Int) ∧ Hid (∀ j, j < a0.size → wr.cell? ⟨w.heap.size, j, none⟩ = some (.int .u8 (mixB (tb a0) k j)) ∧ wr.frozen? ⟨w.heap.size, j, none⟩ = false) ∧ Below w.heap.size w wr) (fun i _ => a0.size - (intOf i).toNat)
  case atStart => exact ⟨0, Nat.zero_le _, rfl, HC, hb1⟩
  case round =>
    obtain ⟨k, hk, rfl, hI, hb⟩ := hrel
    by_cases hlt : k < a0.size
    · obtain ⟨hx, hf⟩ := hI.out k hlt
      obtain ⟨m, hm⟩ : ∃ m, Hid (mixB (tb a0) k k = m) := ⟨_, rfl⟩
      rw [hm.out] at hx
      obtain ⟨hm1, hm2⟩ := mixB_lt (tb a0) k k
      rw [hm.out] at hm1 hm2
      by_cases hA : 65 ≤ m ∧ m ≤ 90
      · obtain ⟨hA1, hA2⟩ := hA
        go_wp2_with fail
        go_roundw
        case rel =>
          refine ⟨k + 1, by omega, by go_num, hid fun j hj => ?_, hb.setCell (Nat.le_refl _) _⟩
          by_cases hjk : j = k
          · subst hjk
            rw [World.cell?_setCell_same _ _ _ hx, World.frozen?_setCell, mixB_low _ _ (by rw [hm.out]; omega) (by rw [hm.out]; omega), hm.out]
            exact ⟨by congr 2; omega, hf⟩
          · rw [World.cell?_setCell_other _ _ _ _ (by intro e; exact hjk (by cases e; rfl)), World.frozen?_setCell, mixB_step _ _ _ hjk]
            exact hI.out j hj
        case measure => simp [intOf]; omega
      · go_wp2_with fail
        all_goals
          have hs := mixB_same (tb a0) k (by rw [hm.out]; omega)
          have hB' : Below w.heap.size w wr := hb
          go_roundw
          case rel =>
            refine ⟨k + 1, by omega, by go_num, hid fun j hj => ?_, hb⟩
            by_cases hjk : j = k
            · subst hjk
              rw [hs]
              exact hI.out j hj
            · rw [mixB_step _ _ _ hjk]
              exact hI.out j hj
          case measure => simp [intOf]; omega
    · obtain rfl : k = a0.size := by omega
      have hcv := conv_rv (P := Tryd.prog) (w := wr) (v := .slice (some ⟨w.heap.size, 0, none⟩) a0.size c) 61 5 9 Tryd.underlying61 Tryd.underlying5 Tryd.underlying9 (small_rv a0 w.heap.size 0 c wr hc1 hc2 (fun j hj => (hI.out j hj).1))
      go_wp2_with fail
      go_ret
      exact ⟨rfl, hb⟩
end


/-! ### slices_Index_string_string: function 37 -/
def slices_Index_string_string.l0 : Nat → List ByteArray → ByteArray → Int → Int → Option (Int)
  | 0, _, _, _, _ => none
  | k + 1, x0, x1, x7, x8 => if x8 < x7 then (if 0 ≤ x8 then (if x8 < (x0.length : Int) then (if x1.toList = (rdOf ByteArray.empty x0 x8).toList then (some x8) else (slices_Index_string_string.l0 k x0 x1 x7 (wrap64 (x8 + 1)))) else (none)) else (none)) else (some (-1))
def slices_Index_string_string.f (k : Nat) (l0 : List ByteArray) (a1 : ByteArray) : Option (Int) := slices_Index_string_string.l0 k l0 a1 (l0.length : Int) 0
theorem slices_Index_string_string.mono_l : ∀ k, (∀ y0 y1 y2 y3, LeO (slices_Index_string_string.l0 k y0 y1 y2 y3) (slices_Index_string_string.l0 (k + 1) y0 y1 y2 y3))
  | 0 => fun _ _ _ _ r h => by simp [slices_Index_string_string.l0] at h
  | k + 1 => by
    have ih0 := slices_Index_string_string.mono_l k
    · intro y0 y1 y2 y3
      unfold slices_Index_string_string.l0
      repeat' first
      | (with_reducible exact ih0 _ _ _ _)
      | (with_reducible exact LeO.refl _)
      | (with_reducible exact LeO.none _)
      | (with_reducible refine LeO.ite ?_ ?_)
      | (with_reducible refine LeO.bind ?_ (fun _ => ?_))
      | exact ih0 _ _ _ _
      | exact LeO.none _
      | refine LeO.ite ?_ ?_
      | refine LeO.bind ?_ (fun _ => ?_)
theorem slices_Index_string_string.mono : ∀ a0 a1 k, LeO (slices_Index_string_string.f k a0 a1) (slices_Index_string_string.f (k + 1) a0 a1) := by
  intro a0 a1 k
  have ih0 := slices_Index_string_string.mono_l k
  unfold slices_Index_string_string.f
  repeat' first
      | (with_reducible exact ih0 _ _ _ _)
      | (with_reducible exact LeO.refl _)
      | (with_reducible exact LeO.none _)
      | (with_reducible refine LeO.ite ?_ ?_)
      | (with_reducible refine LeO.bind ?_ (fun _ => ?_))
      | exact ih0 _ _ _ _
      | exact LeO.none _
      | refine LeO.ite ?_ ?_
      | refine LeO.bind ?_ (fun _ => ?_)
set_option maxHeartbeats 8000000 in
set_option maxRecDepth 100000 in
theorem slices_Index_string_string.calls (k : Nat) (A0 : Option Addr) (c0 : Nat) (l0 : List ByteArray) (a1 : ByteArray) (r : Int) (w : World) (hr0 : Kd.C Kd.string w A0 l0.length l0) (hc0 : l0.length ≤ c0) (h : slices_Index_string_string.f k l0 a1 = some r) :
    Calls Tryd.prog 37 #[.slice A0 l0.length c0, .string a1] w fun e w' => e = .returned (.int .i64 r) ∧ Drawn0 w w' := by
  have HR0 := Aside0.mk hr0
  have HC0 := Aside0.mk hc0
  clear hr0 hc0
  have H : (slices_Index_string_string.l0 k l0 a1 (l0.length : Int) 0) = some r := h
  clear h
  have H' := Aside0.mk H
  clear H
  go_enter Tryd.func37, Tryd.ntmps37
  go_wp2
  go_loopg [8] k (fun kq v8 w' => ∃ (x8_1 : Int), v8 = .int .i64 x8_1 ∧ Aside0 (slices_Index_string_string.l0 kq l0 a1 (l0.length : Int) x8_1 = some r) ∧ Aside0 (kq ≤ k) ∧ Drawn0 w w')
  case atStart => exact ⟨(0), (by first | rfl | (simp; done) | (simp [*]; done)), H', ⟨Nat.le_refl _⟩, by repeat (first | exact Drawn0.refl _ | apply Drawn0.step)⟩
  case round =>
    clear H'
    try clear p2
    obtain ⟨x8_1, rfl, HA, HK1, ⟨m1, rfl⟩⟩ := hrel
    cases gk with
    | zero => exact absurd HA.out (by simp [slices_Index_string_string.l0])
    | succ k1 =>
      have H := HA.out
      clear HA
      simp only [slices_Index_string_string.l0] at H
      by_cases c3 : x8_1 < (l0.length : Int)
      · rw [if_pos c3] at H
        have c3b0 : decide (x8_1 < (l0.length : Int)) = true := decide_eq_true c3
        clear c3
        by_cases c4 : 0 ≤ x8_1
        · rw [if_pos c4] at H
          have c4b0 : decide (0 ≤ x8_1) = true := decide_eq_true c4
          clear c4
          by_cases c5 : x8_1 < (l0.length : Int)
          · rw [if_pos c5] at H
            have c5b0 : decide (x8_1 < (l0.length : Int)) = true := decide_eq_true c5
            clear c5
            by_cases c6 : a1.toList = (rdOf ByteArray.empty l0 x8_1).toList
            · rw [if_pos c6] at H
              have c6b0 : (a1.toList == (rdOf ByteArray.empty l0 x8_1).toList) = true := beq_iff_eq.mpr c6
              have c6b1 : (a1.toList != (rdOf ByteArray.empty l0 x8_1).toList) = false := bne_eq_false_iff_eq.mpr c6
              clear c6
              obtain rfl := Option.some.inj H
              have p105 : 0 ≤ (x8_1 : Int) := of_decide_eq_true (by first | (with_reducible assumption) | assumption)
              have q105 : x8_1 < (l0.length : Int) := of_decide_eq_true (by first | (with_reducible assumption) | assumption)
              obtain ⟨ad105, e105, hx105_0⟩ := Kd.at_string HR0.out x8_1 p105 q105
              cases e105
              replace p105 := eq_true p105
              replace q105 := eq_true q105
              go_wp2
              go_ret
              exact ⟨by first | rfl | (simp; done) | (simp [*]; done), by repeat (first | exact Drawn0.refl _ | apply Drawn0.step)⟩
            · rw [if_neg c6] at H
              have c6b0 : (a1.toList == (rdOf ByteArray.empty l0 x8_1).toList) = false := beq_eq_false_iff_ne.mpr c6
              have c6b1 : (a1.toList != (rdOf ByteArray.empty l0 x8_1).toList) = true := bne_iff_ne.mpr c6
              have H' := Aside0.mk H
              clear H
              have p105 : 0 ≤ (x8_1 : Int) := of_decide_eq_true (by first | (with_reducible assumption) | assumption)
              have q105 : x8_1 < (l0.length : Int) := of_decide_eq_true (by first | (with_reducible assumption) | assumption)
              obtain ⟨ad105, e105, hx105_0⟩ := Kd.at_string HR0.out x8_1 p105 q105
              cases e105
              replace p105 := eq_true p105
              replace q105 := eq_true q105
              go_wp2
              go_roundg k1
              case measure => have := HK1.out; omega
              case rel => exact ⟨(wrap64 (x8_1 + 1)), (by first | rfl | (simp; done) | (simp [*]; done)), H', ⟨by have := HK1.out; omega⟩, by repeat (first | exact Drawn0.refl _ | apply Drawn0.step)⟩
          · rw [if_neg c5] at H
            exact absurd H (by simp)
        · rw [if_neg c4] at H
          exact absurd H (by simp)
      · rw [if_neg c3] at H
        have c3b0 : decide (x8_1 < (l0.length : Int)) = false := decide_eq_false c3
        clear c3
        obtain rfl := Option.some.inj H
        go_wp2
        go_ret
        exact ⟨by first | rfl | (simp; done) | (simp [*]; done), by repeat (first | exact Drawn0.refl _ | apply Drawn0.step)⟩

/-! ### slices_Contains_string_string: function 27 -/
def slices_Contains_string_string.f (k : Nat) (l0 : List ByteArray) (a1 : ByteArray) : Option (Bool) := (slices_Index_string_string.f k l0 a1).bind fun t106 => (some (decide (t106 ≥ 0)))
theorem slices_Contains_string_string.mono : ∀ a0 a1 k, LeO (slices_Contains_string_string.f k a0 a1) (slices_Contains_string_string.f (k + 1) a0 a1) := by
  intro a0 a1 k
  unfold slices_Contains_string_string.f
  repeat' first
      | (with_reducible exact slices_Index_string_string.mono _ _ _)
      | (with_reducible exact LeO.refl _)
      | (with_reducible exact LeO.none _)
      | (with_reducible refine LeO.ite ?_ ?_)
      | (with_reducible refine LeO.bind ?_ (fun _ => ?_))
      | exact slices_Index_string_string.mono _ _ _
      | exact LeO.none _
      | refine LeO.ite ?_ ?_
      | refine LeO.bind ?_ (fun _ => ?_)
set_option maxHeartbeats 8000000 in
set_option maxRecDepth 100000 in
theorem slices_Contains_string_string.calls (k : Nat) (A0 : Option Addr) (c0 : Nat) (l0 : List ByteArray) (a1 : ByteArray) (r : Bool) (w : World) (hr0 : Kd.C Kd.string w A0 l0.length l0) (hc0 : l0.length ≤ c0) (h : slices_Contains_string_string.f k l0 a1 = some r) :
    Calls Tryd.prog 27 #[.slice A0 l0.length c0, .string a1] w fun e w' => e = .returned (.bool r) ∧ Drawn0 w w' := by
  have HR0 := Aside0.mk hr0
  have HC0 := Aside0.mk hc0
  clear hr0 hc0
  have H : ((slices_Index_string_string.f k l0 a1).bind fun t106 => (some (decide (t106 ≥ 0)))) = some r := h
  clear h
  replace H := Option.bind_eq_some_iff.mp H
  obtain ⟨t106, A30, H⟩ := H
  replace H : (some (decide (t106 ≥ 0))) = some r := H
  have A3 := Aside0.mk A30
  clear A30
  obtain rfl := Option.some.inj H
  go_enter Tryd.func27, Tryd.ntmps27
  go_wp2_with (first | ((with_reducible refine gate_callee (f := 37) rfl ?_); refine goesL_ (some 7) rfl rfl Tryd.func37 (by kernel_rfl) rfl #[.slice A0 l0.length c0, .string a1] rfl (by (try simp only [List.map_toArray, List.map_cons, List.map_nil]); first | done | rfl | (simp only [List.length_drop, List.length_take]; rfl)) ?_; (with_reducible refine (slices_Index_string_string.calls k _ _ l0 a1 t106 _ ?side1 ?side2 A3.out).mono ?_); (case side1 => repeat (first | exact HR0.out | (with_reducible refine Kd.C_alloc ?_ _) | (with_reducible refine Kd.C_drewN ?_ _) | (with_reducible refine Kd.C_drew ?_))); (case side2 => exact HC0.out); rintro e w' ⟨rfl, ⟨nd, rfl⟩⟩; refine ⟨_, rfl, ?_⟩))
  go_ret
  exact ⟨by first | rfl | (simp; done) | (simp [*]; done), by repeat (first | exact Drawn0.refl _ | apply Drawn0.step)⟩

end Go.Proofs.YtjeomkojpkienaaDoorZ.ZB
