/-
  The document's pack: bytes cut off.
-/
import Derived.Test.YtgdemfjlhcepiaaRefD
set_option linter.unusedVariables false
set_option linter.unusedSimpArgs false
namespace Go.Proofs.Ytgdemfjlhcepiaa
open Go.RowKit
theorem blobR_no {most : Int} {xs : List UInt8} {bad : Bool} {D xs' : List UInt8} {bad' : Bool} (hN : Hid (blobR most xs bad = (D, xs', bad'))) (h : blobS most xs bad = none) : D = [] ∧ xs' = xs ∧ bad' = true := by
  have := hN.out; simp [blobR, h] at this; exact ⟨this.1, this.2.1.symm, this.2.2⟩
theorem RV.capG {w : World} {A : Option Addr} {n c sz : Nat} {xs : List Value} (h : RV w (.slice A n c) n sz xs) : n ≤ c := by
  obtain ⟨_, A', c', e, h1, _⟩ := h
  simp only [Value.slice.injEq, true_and] at e
  omega
theorem RV_tail0 {w : World} {A : Option Addr} {s x : Nat} {xs : List UInt8} (h : RV w (.slice A (s + x) s) (s + x) 1 (bs (xs.take (s + x)))) (hl : x + s ≤ xs.length) : RV w (.slice A x 0) x 1 (bs ((xs.drop s).take x)) := by
  have := h.capG
  obtain rfl : x = 0 := by omega
  exact RV_zero _ _ _ _ (Nat.zero_le _)
theorem RV_tail1 {w : World} {A : Option Addr} {s x c : Nat} {xs : List UInt8} (h : RV w (.slice A (s + x) c) (s + x) 1 (bs (xs.take (s + x)))) (hl : x + s ≤ xs.length) : RV w (.slice (A.map fun a => a.add s) x (c - s)) x 1 (bs ((xs.drop s).take x)) := by
  obtain ⟨h1, A', c', e, h2, h3, h4⟩ := h
  simp only [Value.slice.injEq, true_and] at e
  obtain ⟨rfl, rfl⟩ := e
  refine ⟨by simp [bs_length]; omega, _, _, rfl, by omega, by omega, fun hx => ?_⟩
  obtain ⟨b, o, rfl, hc⟩ := h4 (by intro e; apply hx; have h5 := congrArg List.length e; rw [bs_length, List.length_take] at h5; have h6 : ([] : List Value).length = 0 := rfl; have h7 : x = 0 := by omega
                                   rw [h7]; rfl)
  refine ⟨b, o + s, by simp [add_plain], fun j u hj => ?_⟩
  rw [Nat.add_assoc]
  refine hc (s + j) u ?_
  have e2 : bs ((xs.drop s).take x) = ((bs (xs.take (s + x))).drop s) := by
    rw [← bs_drop]; congr 1; rw [List.take_add, List.drop_append, List.length_take, Nat.min_eq_left (by omega)]; simp
  rw [e2] at hj
  simpa using hj
set_option maxHeartbeats 1000000 in
theorem dblob_calls (w : World) (p : Nat) (xs : List UInt8) (bad : Bool) (h : DCut w p xs bad) (hl : xs.length ≤ 140737488355328) (most : Int) (hm : most ≤ 9223372036854775807) (D xs' : List UInt8) (bad' : Bool) (hN : Hid (blobR most xs bad = (D, xs', bad'))) :
    Calls Try.prog 39 #[.pointer (some ⟨p, 0, none⟩), .int .i64 most] w fun e w' => (∃ u, e = .returned u ∧ RV w' u D.length 1 (bs D)) ∧ DCut w' p xs' bad' ∧ w.grownBy w' (some p) := by
  obtain ⟨kb, h⟩ := h
  obtain ⟨A, c, h0, h1, hr, hf0, hf1, hkb⟩ := h.cells
  cases hf : first xs with
  | none =>
    obtain ⟨rfl, rfl, rfl⟩ := blobR_no hN (by cases bad <;> simp [blobS, peekS, hf])
    have hF : Hid ((first xs').getD (0, 0) = (0, 0)) := by show _ = _; rw [hf]; rfl
    clear hf
    go_enter Try.func39, Try.ntmps39
    go_wp2_with fail
    refine (rfirst_calls _ xs' w hr 0 0 hF).mono ?_
    rintro e w1 ⟨rfl, hb1⟩
    obtain ⟨kb1, hd1⟩ := DCut.below ⟨kb, h⟩ hb1
    obtain ⟨A1, c1, g0, g1, gr, gf0, gf1, _⟩ := hd1.cells
    go_wp2_with fail
    go_ret
    exact ⟨⟨_, rfl, RV_nil _ _⟩, ⟨_, hd1.failed true⟩, grown_trans (grown_of_below hb1 _) (grown_setCell _ _ _ _)⟩
  | some y =>
    obtain ⟨x, s⟩ := y
    obtain ⟨hs0, hsl, hs9, hx64⟩ := first_facts hf
    have hF : Hid ((first xs).getD (0, 0) = (x, s)) := by show _ = _; rw [hf]; rfl
    have hsz : ((s : Int) == 0) = false := by simp; omega
    by_cases hm0 : most < 0
    · obtain ⟨rfl, rfl, rfl⟩ := blobR_no hN (by cases bad <;> simp [blobS, peekS, hf]; omega)
      clear hf
      go_enter Try.func39, Try.ntmps39
      go_wp2_with fail
      refine (rfirst_calls _ xs' w hr x s hF).mono ?_
      rintro e w1 ⟨rfl, hb1⟩
      obtain ⟨kb1, hd1⟩ := DCut.below ⟨kb, h⟩ hb1
      obtain ⟨A1, c1, g0, g1, gr, gf0, gf1, _⟩ := hd1.cells
      go_wp2_with fail
      go_ret
      exact ⟨⟨_, rfl, RV_nil _ _⟩, ⟨_, hd1.failed true⟩, grown_trans (grown_of_below hb1 _) (grown_setCell _ _ _ _)⟩
    · obtain ⟨M, rfl⟩ : ∃ M : Nat, most = (M : Int) := ⟨most.toNat, by omega⟩
      have hM : M ≤ 9223372036854775807 := by omega
      by_cases hbig : M < x ∨ xs.length < x
      · obtain ⟨rfl, rfl, rfl⟩ := blobR_no hN (by cases bad <;> simp [blobS, peekS, hf]; omega)
        clear hf
        by_cases hxm : M < x
        · go_enter Try.func39, Try.ntmps39
          go_wp2_with fail
          refine (rfirst_calls _ xs' w hr x s hF).mono ?_
          rintro e w1 ⟨rfl, hb1⟩
          obtain ⟨kb1, hd1⟩ := DCut.below ⟨kb, h⟩ hb1
          obtain ⟨A1, c1, g0, g1, gr, gf0, gf1, _⟩ := hd1.cells
          go_wp2_with fail
          go_ret
          exact ⟨⟨_, rfl, RV_nil _ _⟩, ⟨_, hd1.failed true⟩, grown_trans (grown_of_below hb1 _) (grown_setCell _ _ _ _)⟩
        · have hxl : xs'.length < x := by omega
          go_enter Try.func39, Try.ntmps39
          go_wp2_with fail
          refine (rfirst_calls _ xs' w hr x s hF).mono ?_
          rintro e w1 ⟨rfl, hb1⟩
          obtain ⟨kb1, hd1⟩ := DCut.below ⟨kb, h⟩ hb1
          obtain ⟨A1, c1, g0, g1, gr, gf0, gf1, _⟩ := hd1.cells
          go_wp2_with fail
          go_ret
          exact ⟨⟨_, rfl, RV_nil _ _⟩, ⟨_, hd1.failed true⟩, grown_trans (grown_of_below hb1 _) (grown_setCell _ _ _ _)⟩
      · have hxM : x ≤ M := by omega
        have hxl : x ≤ xs.length := by omega
        by_cases hok : bad = false ∧ x + s ≤ xs.length
        · obtain ⟨rfl, hxs⟩ := hok
          have hN' : D = (xs.drop s).take x ∧ xs' = xs.drop (s + x) ∧ bad' = false := by
            have hS : blobS (M : Int) xs false = some (x, s) := by simp [blobS, peekS, hf]; omega
            have := hN.out; simp [blobR, hS] at this; exact ⟨this.1.symm, this.2.1.symm, this.2.2⟩
          obtain ⟨hD, rfl, rfl⟩ := hN'
          have hDl : D.length = x := by rw [hD, List.length_take, List.length_drop]; omega
          have HD := hid hD
          have HL := hid hDl
          clear hf hD hDl hN
          go_enter Try.func39, Try.ntmps39
          go_wp2_with fail
          refine (rfirst_calls _ xs w hr x s hF).mono ?_
          rintro e w1 ⟨rfl, hb1⟩
          obtain ⟨kb1, hd1⟩ := DCut.below ⟨kb, h⟩ hb1
          obtain ⟨A1, c1, g0, g1, gr, gf0, gf1, _⟩ := hd1.cells
          go_wp2_with fail
          refine (roff_ok w1 p xs hd1 (s + x) (by omega) (by omega) hl).mono ?_
          rintro e w2 ⟨v, kb2, rfl, ho2, hd2, g2, _⟩
          have hrv := RV_own ho2
          obtain ⟨Av, cv, rfl⟩ := hrv.slice
          go_wp2_with fail
          · have ecv : cv = s := by omega
            rw [ecv] at hrv
            go_ret
            exact ⟨⟨_, rfl, by rw [HL.out, HD.out]; exact RV_tail0 hrv hxs⟩, ⟨_, hd2⟩, grown_trans (grown_of_below hb1 _) g2⟩
          · go_ret
            exact ⟨⟨_, rfl, by rw [HL.out, HD.out]; exact RV_tail1 hrv hxs⟩, ⟨_, hd2⟩, grown_trans (grown_of_below hb1 _) g2⟩
        · obtain ⟨rfl, rfl, rfl⟩ := blobR_no hN (by cases bad <;> simp [blobS, peekS, hf]; simp at hok; omega)
          clear hf
          go_enter Try.func39, Try.ntmps39
          go_wp2_with fail
          refine (rfirst_calls _ xs' w hr x s hF).mono ?_
          rintro e w1 ⟨rfl, hb1⟩
          obtain ⟨kb1, hd1⟩ := DCut.below ⟨kb, h⟩ hb1
          obtain ⟨A1, c1, g0, g1, gr, gf0, gf1, _⟩ := hd1.cells
          go_wp2_with fail
          refine (roff_no w1 p xs' bad hd1 (s + x) true (by cases bad; simp at hok; right; right; omega; exact .inl rfl)).mono ?_
          rintro e w2 ⟨rfl, hd2, g2⟩
          go_wp2_with fail
          go_ret
          exact ⟨⟨_, rfl, RV_nil _ _⟩, ⟨_, hd2⟩, grown_trans (grown_of_below hb1 _) g2⟩
end Go.Proofs.Ytgdemfjlhcepiaa
