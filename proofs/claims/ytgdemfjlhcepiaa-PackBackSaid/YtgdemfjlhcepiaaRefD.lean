/-
  The document's pack: a Cut's numbers, bytes, sums, its end.
-/
import Derived.Test.YtgdemfjlhcepiaaRefC
import Derived.Test.YtgdemfjlhcepiaaPackD
set_option linter.unusedVariables false
set_option linter.unusedSimpArgs false
namespace Go.Proofs.Ytgdemfjlhcepiaa
open Go.RowKit
/-- The document's Cut: a block with what is left, and whether there was a fault. -/
def DCut (w : World) (p : Nat) (xs : List UInt8) (bad : Bool) : Prop := ∃ kb, CutAt 41 w p kb xs bad
theorem DCut.below {w w' : World} {p : Nat} {xs : List UInt8} {bad : Bool} (h : DCut w p xs bad) (hb : Below w.heap.size w w') : DCut w' p xs bad := by
  obtain ⟨kb, A, c, h1, h2, h3⟩ := h
  exact ⟨kb, A, c, by rw [hb.block p (Array.getElem?_eq_some_iff.1 h1).1]; exact h1, h2.below hb, h3⟩
theorem DCut.lt {w : World} {p : Nat} {xs : List UInt8} {bad : Bool} (h : DCut w p xs bad) : p < w.heap.size := by obtain ⟨kb, h⟩ := h; exact h.lt
theorem peek_false (xs : List UInt8) : peekS xs false = first xs := rfl
set_option maxHeartbeats 1000000 in
theorem rnum_calls (w : World) (p : Nat) (xs : List UInt8) (bad : Bool) (h : DCut w p xs bad) (hl : xs.length ≤ 140737488355328) (most N : Nat) (xs' : List UInt8) (bad' : Bool) (hN : Hid (numS most xs bad = (N, xs', bad'))) :
    Calls Try.prog 38 #[.pointer (some ⟨p, 0, none⟩), .int .u64 (most : Int)] w fun e w' => e = .returned (.int .u64 (N : Int)) ∧ DCut w' p xs' bad' ∧ w.grownBy w' (some p) := by
  obtain ⟨kb, h⟩ := h
  obtain ⟨A, c, h0, h1, hr, hf0, hf1, hkb⟩ := h.cells
  cases hf : first xs with
  | none =>
    have hN' : N = 0 ∧ xs' = xs ∧ bad' = true := by
      have := hN.out; cases bad <;> simp [numS, peekS, hf] at this <;> exact ⟨this.1.symm, this.2.1.symm, this.2.2⟩
    obtain ⟨rfl, rfl, rfl⟩ := hN'
    have hF : Hid ((first xs').getD (0, 0) = (0, 0)) := by show _ = _; rw [hf]; rfl
    clear hf
    go_enter Try.func38, Try.ntmps38
    go_wp2_with fail
    refine (rfirst_calls _ xs' w hr 0 0 hF).mono ?_
    rintro e w1 ⟨rfl, hb1⟩
    obtain ⟨kb1, hd1⟩ := DCut.below ⟨kb, h⟩ hb1
    go_wp2_with fail
    refine (roff_no w1 p xs' bad hd1 0 false (.inr (.inl rfl))).mono ?_
    rintro e w2 ⟨rfl, hd2, g2⟩
    go_wp2_with fail
    go_ret
    exact ⟨rfl, ⟨_, hd2⟩, grown_trans (grown_of_below hb1 _) g2⟩
  | some y =>
    obtain ⟨x, s⟩ := y
    obtain ⟨hs0, hsl, hs9, hx64⟩ := first_facts hf
    have hF : Hid ((first xs).getD (0, 0) = (x, s)) := by show _ = _; rw [hf]; rfl
    by_cases hle : x ≤ most
    · cases bad with
      | true =>
        have hN' : N = 0 ∧ xs' = xs ∧ bad' = true := by
          have := hN.out; simp [numS, peekS] at this; exact ⟨this.1.symm, this.2.1.symm, this.2.2⟩
        obtain ⟨rfl, rfl, rfl⟩ := hN'
        clear hf
        go_enter Try.func38, Try.ntmps38
        go_wp2_with fail
        refine (rfirst_calls _ xs' w hr x s hF).mono ?_
        rintro e w1 ⟨rfl, hb1⟩
        obtain ⟨kb1, hd1⟩ := DCut.below ⟨kb, h⟩ hb1
        go_wp2_with fail
        refine (roff_no w1 p xs' true hd1 s true (.inl rfl)).mono ?_
        rintro e w2 ⟨rfl, hd2, g2⟩
        go_wp2_with fail
        go_ret
        exact ⟨rfl, ⟨_, hd2⟩, grown_trans (grown_of_below hb1 _) g2⟩
      | false =>
        have hN' : N = x ∧ xs' = xs.drop s ∧ bad' = false := by
          have := hN.out; simp [numS, peekS, hf, hle] at this; exact ⟨this.1.symm, this.2.1.symm, this.2.2⟩
        obtain ⟨rfl, rfl, rfl⟩ := hN'
        clear hf
        go_enter Try.func38, Try.ntmps38
        go_wp2_with fail
        refine (rfirst_calls _ xs w hr N s hF).mono ?_
        rintro e w1 ⟨rfl, hb1⟩
        obtain ⟨kb1, hd1⟩ := DCut.below ⟨kb, h⟩ hb1
        go_wp2_with fail
        refine (roff_ok w1 p xs hd1 s hs0 hsl hl).mono ?_
        rintro e w2 ⟨v, kb2, rfl, ho2, hd2, g2, _⟩
        go_wp2_with fail
        go_ret
        exact ⟨rfl, ⟨_, hd2⟩, grown_trans (grown_of_below hb1 _) g2⟩
    · have hN' : N = 0 ∧ xs' = xs ∧ bad' = true := by
        have := hN.out; cases bad <;> simp [numS, peekS, hf, hle] at this <;> exact ⟨this.1.symm, this.2.1.symm, this.2.2⟩
      obtain ⟨rfl, rfl, rfl⟩ := hN'
      clear hf
      go_enter Try.func38, Try.ntmps38
      go_wp2_with fail
      refine (rfirst_calls _ xs' w hr x s hF).mono ?_
      rintro e w1 ⟨rfl, hb1⟩
      obtain ⟨kb1, hd1⟩ := DCut.below ⟨kb, h⟩ hb1
      go_wp2_with fail
      refine (roff_no w1 p xs' bad hd1 s false (.inr (.inl rfl))).mono ?_
      rintro e w2 ⟨rfl, hd2, g2⟩
      go_wp2_with fail
      go_ret
      exact ⟨rfl, ⟨_, hd2⟩, grown_trans (grown_of_below hb1 _) g2⟩
end Go.Proofs.Ytgdemfjlhcepiaa
