/-
  The walks of the layer pack: what is cut off.
-/
import Derived.Test.YtpgcepfecmkkaaaDoorPackA
import Derived.Deep.QuietTactic
import Derived.BigQuiet
import Derived.BigRegion
import Derived.Deep.DeepFit
set_option linter.unusedVariables false
set_option linter.unusedSimpArgs false
namespace Go.Proofs.YtpgcepfecmkkaaaDoor
open Go.RowKit
attribute [local go_sem] eq_bytes_nil
variable {kb : Nat}

/-! ### what is meant -/
/-- The number that bytes are, the highest first. -/
def val (l : List UInt8) : Nat := l.foldl (fun a c => 256 * a + c.toNat) 0
/-- The number with which bytes begin, and how many of them it has. -/
def first : List UInt8 → Option (Nat × Nat)
  | [] => none
  | k :: r => if 8 < k.toNat ∨ r.length < k.toNat ∨ (0 < k.toNat ∧ (r.headD 1).toNat = 0) then none else some (val (r.take k.toNat), k.toNat + 1)
/-- The same of what a Cut has. -/
def peekS (xs : List UInt8) (bad : Bool) : Option (Nat × Nat) := if bad then none else first xs

/-- A Cut's block p: what was not cut off (it lies in block kb), and whether there was a fault. -/
def CutAt (t : TypeId) (w : World) (p kb : Nat) (xs : List UInt8) (bad : Bool) : Prop :=
  ∃ A c, w.heap[p]? = some (.cells #[.slice A xs.length c, .bool bad] t (0, 0)) ∧ RV w (.slice A xs.length c) xs.length 1 (bs xs) ∧ (xs ≠ [] → ∃ o, A = some ⟨kb, o, none⟩)

/-- What a round of peek's loop holds. -/
theorem val_snoc (l : List UInt8) (c : UInt8) : val (l ++ [c]) = 256 * val l + c.toNat := by simp [val]
theorem foldl_lt (l : List UInt8) : ∀ a, l.foldl (fun a c => 256 * a + c.toNat) a < (a + 1) * 256 ^ l.length := by
  induction l with
  | nil => intro a; simp
  | cons c r ih =>
    intro a
    have h := ih (256 * a + c.toNat)
    have hc := c.toNat_lt
    rw [List.foldl_cons, List.length_cons, Nat.pow_succ]
    calc _ < (256 * a + c.toNat + 1) * 256 ^ r.length := h
      _ ≤ ((a + 1) * 256) * 256 ^ r.length := Nat.mul_le_mul_right _ (by omega)
      _ = _ := by rw [Nat.mul_assoc, Nat.mul_comm 256]
theorem val_lt (l : List UInt8) : val l < 256 ^ l.length := by have := foldl_lt l 0; simpa [val] using this
theorem val_lt64 (l : List UInt8) (h : l.length ≤ 8) : val l < 18446744073709551616 := by
  have h1 := val_lt l
  have h2 : (256 : Nat) ^ l.length ≤ 256 ^ 8 := Nat.pow_le_pow_right (by decide) h
  omega

theorem peek_bad (p : Nat) (A : Option Addr) (n c : Nat) (w : World) (h0 : w.cell? ⟨p, 0, none⟩ = some (.slice A n c)) (h1 : w.cell? ⟨p, 1, none⟩ = some (.bool true)) :
    Calls Tryd.prog 55 #[.pointer (some ⟨p, 0, none⟩)] w fun e w' => e = .returned (.tuple #[.int .u64 0, .int .i64 0]) ∧ ∃ m, w' = w.drewN m := by
  go_enter Tryd.func55, Tryd.ntmps55
  go_wp2_with fail
  go_quiet (fail)
  go_wp2
  go_ret2
  exact ⟨rfl, _, rfl⟩
theorem peek_empty (p : Nat) (A : Option Addr) (c : Nat) (w : World) (h0 : w.cell? ⟨p, 0, none⟩ = some (.slice A 0 c)) (h1 : w.cell? ⟨p, 1, none⟩ = some (.bool false)) :
    Calls Tryd.prog 55 #[.pointer (some ⟨p, 0, none⟩)] w fun e w' => e = .returned (.tuple #[.int .u64 0, .int .i64 0]) ∧ ∃ m, w' = w.drewN m := by
  go_enter Tryd.func55, Tryd.ntmps55
  go_wp2_with fail
  go_quiet (fail)
  go_wp2
  go_ret2
  exact ⟨rfl, _, rfl⟩
theorem peek_great (p b o n c k : Nat) (w : World) (h0 : w.cell? ⟨p, 0, none⟩ = some (.slice (some ⟨b, o, none⟩) n c)) (h1 : w.cell? ⟨p, 1, none⟩ = some (.bool false)) (hn : 0 < n)
    (hc : w.cell? ⟨b, o, none⟩ = some (.int .u8 (Int.ofNat k))) (hk : 8 < k) :
    Calls Tryd.prog 55 #[.pointer (some ⟨p, 0, none⟩)] w fun e w' => e = .returned (.tuple #[.int .u64 0, .int .i64 0]) ∧ ∃ m, w' = w.drewN m := by
  have hn0 : ((n : Int) == 0) = false := by simp; omega
  have hk0 : decide ((8 : Int) < (k : Int)) = true := by simp; omega
  have hn1 : (0 : Int) < (n : Int) := by omega
  go_enter Tryd.func55, Tryd.ntmps55
  go_wp2_with fail
  go_quiet (fail)
  go_wp2
  go_ret2
  exact ⟨rfl, _, rfl⟩
theorem peek_short (p b o n c k : Nat) (w : World) (h0 : w.cell? ⟨p, 0, none⟩ = some (.slice (some ⟨b, o, none⟩) n c)) (h1 : w.cell? ⟨p, 1, none⟩ = some (.bool false)) (hn : 0 < n)
    (hc : w.cell? ⟨b, o, none⟩ = some (.int .u8 (Int.ofNat k))) (hk : ¬ 8 < k) (hs : n ≤ k) :
    Calls Tryd.prog 55 #[.pointer (some ⟨p, 0, none⟩)] w fun e w' => e = .returned (.tuple #[.int .u64 0, .int .i64 0]) ∧ ∃ m, w' = w.drewN m := by
  have hn0 : ((n : Int) == 0) = false := by simp; omega
  have hk0 : decide ((8 : Int) < (k : Int)) = false := by simp; omega
  have hn1 : (0 : Int) < (n : Int) := by omega
  have hs0 : decide ((n : Int) ≤ (k : Int)) = true := by simp; omega
  go_enter Tryd.func55, Tryd.ntmps55
  go_wp2_with fail
  go_quiet (fail)
  go_wp2
  go_ret2
  exact ⟨rfl, _, rfl⟩
theorem shl_or (a c : Nat) (ha : a < 72057594037927936) (hc : c < 256) : bits .or .u64 ((a : Int) * 256) (c : Int) = ((256 * a + c : Nat) : Int) := by
  have e1 : (a : Int) * 256 = ((a * 256 : Nat) : Int) := by omega
  rw [e1, u64_or_nat _ _ (by omega) (by omega)]
  have := Nat.shiftLeft_add_eq_or_of_lt (i := 8) (b := c) (by omega) a
  rw [Nat.shiftLeft_eq] at this
  have e3 : a * 256 ||| c = a * 256 + c := this.symm
  rw [e3]; omega
/-- What peek answers. -/
def peekV (o : Option (Nat × Nat)) : Value := match o with | none => .tuple #[.int .u64 0, .int .i64 0] | some (x, s) => .tuple #[.int .u64 (Int.ofNat x), .int .i64 (Int.ofNat s)]
theorem peek_zero (p b o n c : Nat) (w : World) (h0 : w.cell? ⟨p, 0, none⟩ = some (.slice (some ⟨b, o, none⟩) n c)) (h1 : w.cell? ⟨p, 1, none⟩ = some (.bool false)) (hn : 0 < n) (hnc : n ≤ c)
    (hc : w.cell? ⟨b, o, none⟩ = some (.int .u8 (Int.ofNat 0))) :
    Calls Tryd.prog 55 #[.pointer (some ⟨p, 0, none⟩)] w fun e w' => e = .returned (.tuple #[.int .u64 0, .int .i64 1]) ∧ ∃ m, w' = w.drewN m := by
  have hn0 : ((n : Int) == 0) = false := by simp; omega
  have hn1 : (0 : Int) < (n : Int) := by omega
  have hs0 : decide ((n : Int) ≤ (0 : Int)) = false := by simp; omega
  go_enter Tryd.func55, Tryd.ntmps55
  go_wp2_with fail
  go_quiet (fail)
  go_wp2
  all_goals
    refine wp_loop_rounds 1 ?_; rw [rounds_succ]
    go_wp2
    go_ret2
    exact ⟨rfl, _, rfl⟩
theorem peek_num (p b o n c k : Nat) (r : List UInt8) (w : World) (h0 : w.cell? ⟨p, 0, none⟩ = some (.slice (some ⟨b, o, none⟩) n c)) (h1 : w.cell? ⟨p, 1, none⟩ = some (.bool false)) (hn : k < n) (hnc : n ≤ c) (hm : n ≤ 9223372036854775807)
    (hc : w.cell? ⟨b, o, none⟩ = some (.int .u8 (Int.ofNat k))) (hk : ¬ 8 < k) (hk1 : 0 < k) (hr : r.length = k) (z : Nat) (hz : Hid ((r.headD 1).toNat = z)) (V : Value) (hV : Hid (V = peekV (if z = 0 then none else some (val r, k + 1)))) (hcr : ∀ j, (h : j < r.length) → w.cell? ⟨b, o + 1 + j, none⟩ = some (.int .u8 (Int.ofNat r[j].toNat))) :
    Calls Tryd.prog 55 #[.pointer (some ⟨p, 0, none⟩)] w fun e w' => e = .returned V ∧ ∃ m, w' = w.drewN m := by
  have hn0 : ((n : Int) == 0) = false := by simp; omega
  have hn1 : (0 : Int) < (n : Int) := by omega
  have hk0 : decide ((8 : Int) < (k : Int)) = false := by simp; omega
  have hs0 : decide ((n : Int) ≤ (k : Int)) = false := by simp; omega
  go_enter Tryd.func55, Tryd.ntmps55
  go_wp2_with fail
  go_quiet (fail)
  go_wp2
  go_loop [2, 57] (fun x i => ∃ j : Nat, j ≤ k ∧ i = .int .i64 (Int.ofNat j) ∧ x = .int .u64 (Int.ofNat (val (r.take j)))) (fun _ i => k - (intOf i).toNat)
  case atStart => exact ⟨0, Nat.zero_le _, rfl, rfl⟩
  case round =>
    obtain ⟨j, hj, rfl, rfl⟩ := hrel
    by_cases hlt : j < k
    · have hjr : j < r.length := by omega
      have hcj := hcr j hjr
      have hv8 := val_lt64 (r.take j) (by rw [List.length_take]; omega)
      have hv7 : val (r.take j) < 72057594037927936 := by
        have h1 := val_lt (r.take j)
        have h2 : (256 : Nat) ^ (r.take j).length ≤ 256 ^ 7 := Nat.pow_le_pow_right (by decide) (by rw [List.length_take]; omega)
        omega
      have hx1 : r[j].toNat < 256 := UInt8.toNat_lt _
      have HV : Hid (val (r.take (j + 1)) = 256 * val (r.take j) + r[j].toNat) := by
        show _ = _
        rw [List.take_succ_eq_append_getElem hjr, val_snoc]
      go_wp2
      go_round
      case rel =>
        refine ⟨j + 1, by omega, by go_num, ?_⟩
        rw [HV.out, shl_or _ _ hv7 hx1]; rfl
      case measure => simp [intOf]; omega
    · obtain rfl : j = k := by omega
      have h0r : 0 < r.length := by omega
      have hc1 := hcr 0 h0r
      have hd : r[0].toNat = z := by rw [← hz.out]; cases r with | nil => simp at h0r | cons => rfl
      rw [Nat.add_zero, hd] at hc1
      have HT : Hid (val (r.take j) = val r) := by rw [List.take_of_length_le (by omega)]; rfl
      clear hd hcr hr
      by_cases hz : z = 0
      · subst hz
        go_wp2
        go_ret2
        exact ⟨by rw [hV.out]; rfl, _, rfl⟩
      · have hz0 : ((z : Int) == 0) = false := by simp; omega
        have HP : Hid (peekV (if z = 0 then none else some (val r, j + 1)) = .tuple #[.int .u64 (Int.ofNat (val (r.take j))), .int .i64 (1 + (j : Int))]) := by show _ = _; rw [if_neg hz, HT.out]; unfold peekV; congr 4; simp; omega
        go_wp2
        go_ret2
        exact ⟨by rw [hV.out, HP.out]; rfl, _, rfl⟩
theorem CutAt.cells {t : TypeId} {w : World} {p : Nat} {xs : List UInt8} {bad : Bool} (h : CutAt t w p kb xs bad) :
    ∃ A c, w.cell? ⟨p, 0, none⟩ = some (.slice A xs.length c) ∧ w.cell? ⟨p, 1, none⟩ = some (.bool bad) ∧ RV w (.slice A xs.length c) xs.length 1 (bs xs) ∧ w.frozen? ⟨p, 0, none⟩ = false ∧ w.frozen? ⟨p, 1, none⟩ = false ∧ (xs ≠ [] → ∃ o, A = some ⟨kb, o, none⟩) := by
  obtain ⟨A, c, h1, h2, h3⟩ := h
  exact ⟨A, c, by rw [cell_of_row w p 0 _ t _ h1]; rfl, by rw [cell_of_row w p 1 _ t _ h1]; rfl, h2, frozen_of_row w p 0 _ t h1, frozen_of_row w p 1 _ t h1, h3⟩
theorem peek_calls (t : TypeId) (w : World) (p : Nat) (xs : List UInt8) (bad : Bool) (h : CutAt t w p kb xs bad) :
    Calls Tryd.prog 55 #[.pointer (some ⟨p, 0, none⟩)] w fun e w' => e = .returned (peekV (peekS xs bad)) ∧ ∃ m, w' = w.drewN m := by
  obtain ⟨A, c, h0, h1, hr, _, _, _⟩ := h.cells
  cases bad with
  | true => exact peek_bad p A _ c w h0 h1
  | false =>
    obtain ⟨_, A', c', e, hc1, hc2, hc3⟩ := hr
    simp only [Value.slice.injEq, true_and] at e
    obtain ⟨rfl, rfl⟩ := e
    cases xs with
    | nil => exact peek_empty p A c w h0 h1
    | cons k r =>
      obtain ⟨b, o, rfl, hcell⟩ := hc3 (by simp [bs])
      have hk0 : w.cell? ⟨b, o, none⟩ = some (.int .u8 (Int.ofNat k.toNat)) := hcell 0 _ (by simp [bs])
      have hpk : peekS (k :: r) false = first (k :: r) := rfl
      rw [hpk]
      have hlen : (k :: r).length = r.length + 1 := List.length_cons
      rw [hlen] at h0 hc1
      by_cases h8 : 8 < k.toNat
      · rw [show first (k :: r) = none from if_pos (.inl h8)]
        exact peek_great p b o _ c k.toNat w h0 h1 (by omega) hk0 h8
      by_cases hs : r.length < k.toNat
      · rw [show first (k :: r) = none from if_pos (.inr (.inl hs))]
        exact peek_short p b o _ c k.toNat w h0 h1 (by omega) hk0 h8 (by omega)
      by_cases hz : k.toNat = 0
      · rw [show first (k :: r) = some (0, 1) by simp [first, hz, val]]
        rw [hz] at hk0
        exact peek_zero p b o _ c w h0 h1 (by omega) hc1 hk0
      · have hrl : (r.take k.toNat).length = k.toNat := by rw [List.length_take]; omega
        have hhd : ((r.take k.toNat).headD 1) = r.headD 1 := by
          cases r with
          | nil => simp
          | cons a l => obtain ⟨m, hm⟩ : ∃ m, k.toNat = m + 1 := ⟨k.toNat - 1, by omega⟩; rw [hm]; rfl
        refine (peek_num p b o _ c k.toNat (r.take k.toNat) w h0 h1 (by omega) hc1 (by simp only [maxLen] at hc2; omega) hk0 h8 (by omega) hrl _ (hid rfl) _ (hid rfl) (fun j hj => ?_)).mono ?_
        · have hjr : j < r.length := by omega
          have := hcell (j + 1) (.int .u8 (Int.ofNat r[j].toNat)) (by simp [bs, hjr])
          rw [List.getElem_take, show o + 1 + j = o + (j + 1) by omega]; exact this
        · rintro e w' ⟨rfl, hw⟩
          refine ⟨?_, hw⟩
          rw [hhd]
          congr 2
          simp only [first]
          by_cases h0 : (r.headD 1).toNat = 0
          · rw [if_pos h0, if_pos (.inr (.inr ⟨by omega, h0⟩))]
          · rw [if_neg h0, if_neg (by omega)]
theorem off_bad (p : Nat) (A : Option Addr) (l c : Nat) (n : Nat) (right : Bool) (w : World) (h0 : w.cell? ⟨p, 0, none⟩ = some (.slice A l c)) (h1 : w.cell? ⟨p, 1, none⟩ = some (.bool true)) (hf : w.frozen? ⟨p, 1, none⟩ = false) :
    Calls Tryd.prog 56 #[.pointer (some ⟨p, 0, none⟩), .int .i64 (Int.ofNat n), .bool right] w fun e w' => e = .returned (.slice none 0 0) ∧ w' = w.setCell ⟨p, 1, none⟩ (.bool true) := by
  go_enter Tryd.func56, Tryd.ntmps56
  go_wp2
  go_ret
  exact ⟨rfl, rfl⟩
theorem off_wrong (p : Nat) (A : Option Addr) (l c : Nat) (n : Nat) (w : World) (h0 : w.cell? ⟨p, 0, none⟩ = some (.slice A l c)) (h1 : w.cell? ⟨p, 1, none⟩ = some (.bool false)) (hf : w.frozen? ⟨p, 1, none⟩ = false) :
    Calls Tryd.prog 56 #[.pointer (some ⟨p, 0, none⟩), .int .i64 (Int.ofNat n), .bool false] w fun e w' => e = .returned (.slice none 0 0) ∧ w' = w.setCell ⟨p, 1, none⟩ (.bool true) := by
  go_enter Tryd.func56, Tryd.ntmps56
  go_wp2
  go_ret
  exact ⟨rfl, rfl⟩
theorem off_short (p : Nat) (A : Option Addr) (l c : Nat) (n : Nat) (w : World) (h0 : w.cell? ⟨p, 0, none⟩ = some (.slice A l c)) (h1 : w.cell? ⟨p, 1, none⟩ = some (.bool false)) (hf : w.frozen? ⟨p, 1, none⟩ = false) (hl : l < n) :
    Calls Tryd.prog 56 #[.pointer (some ⟨p, 0, none⟩), .int .i64 (Int.ofNat n), .bool true] w fun e w' => e = .returned (.slice none 0 0) ∧ w' = w.setCell ⟨p, 1, none⟩ (.bool true) := by
  have hl0 : decide (l < n) = true := decide_eq_true hl
  go_enter Tryd.func56, Tryd.ntmps56
  go_wp2
  go_ret
  exact ⟨rfl, rfl⟩
theorem off_ok (p b o l c : Nat) (n : Nat) (w : World) (h0 : w.cell? ⟨p, 0, none⟩ = some (.slice (some ⟨b, o, none⟩) l c)) (h1 : w.cell? ⟨p, 1, none⟩ = some (.bool false)) (hf0 : w.frozen? ⟨p, 0, none⟩ = false) (hf : w.frozen? ⟨p, 1, none⟩ = false)
    (hl : n ≤ l) (hlc : l ≤ c) (hn : 0 < n) (hm : l ≤ 9223372036854775807) (A2 : Option Addr) (hA2 : Hid (A2 = if c = n then some ⟨b, o, none⟩ else some ⟨b, o + n, none⟩)) :
    Calls Tryd.prog 56 #[.pointer (some ⟨p, 0, none⟩), .int .i64 (Int.ofNat n), .bool true] w fun e w' => e = .returned (.slice (some ⟨b, o, none⟩) n n) ∧ ∃ m, w' = ((w.setCell ⟨p, 1, none⟩ (.bool false)).setCell ⟨p, 0, none⟩ (.slice A2 (l - n) (c - n))).drewN m := by
  have hl0 : decide (l < n) = false := decide_eq_false (by omega)
  have hn0 : ¬ n = 0 := by omega
  go_enter Tryd.func56, Tryd.ntmps56
  go_wp2_with fail
  go_region
  all_goals (try go_wp2)
  all_goals go_ret
  · exact ⟨rfl, 1, by rw [hA2.out, if_pos ‹c = n›]; rfl⟩
  · exact ⟨rfl, 1, by rw [hA2.out, if_neg ‹¬ c = n›]; rfl⟩

theorem CutAt.change {t : TypeId} {w w' : World} {p : Nat} {xs : List UInt8} {bad : Bool} (h : CutAt t w p kb xs bad) (hg : w.grownBy w' (some p)) {v : Value} {n sz : Nat} {us : List Value} (hv : RV w v n sz us) (hp : ∀ u ∈ us, plainV u = true) : RV w' v n sz us := by
  obtain ⟨A, c, h1, _⟩ := h
  exact hv.past h1 (fun j u hu => by match j, hu with | 0, hu => simp at hu; subst hu; rfl | 1, hu => simp at hu; subst hu; rfl) hg hp
theorem off_calls (t : TypeId) (w : World) (p : Nat) (xs : List UInt8) (bad : Bool) (h : CutAt t w p kb xs bad) (n : Nat) (right : Bool) (hn : right = true → 0 < n) :
    Calls Tryd.prog 56 #[.pointer (some ⟨p, 0, none⟩), .int .i64 (Int.ofNat n), .bool right] w fun e w' => ∃ v, e = .returned v ∧ w.grownBy w' (some p) ∧
      ((bad = true ∨ right = false ∨ xs.length < n) ∧ v = .slice none 0 0 ∧ CutAt t w' p kb xs true ∨ bad = false ∧ right = true ∧ n ≤ xs.length ∧ (∃ b o, v = .slice (some ⟨b, o, none⟩) n n) ∧ RV w' v n 1 (bs (xs.take n)) ∧ CutAt t w' p kb (xs.drop n) false) := by
  obtain ⟨A, c, h0, h1, hr, hf0, hf1, hkb⟩ := h.cells
  have hbad : w.grownBy (w.setCell ⟨p, 1, none⟩ (.bool true)) (some p) ∧ CutAt t (w.setCell ⟨p, 1, none⟩ (.bool true)) p kb xs true := by
    have hg := grown_setCell w p 1 (.bool true)
    refine ⟨hg, A, c, ?_, h.change hg hr (bs_plain xs), hkb⟩
    obtain ⟨A', c', hh, _⟩ := h
    have e0 : A' = A ∧ c' = c := by rw [cell_of_row w p 0 _ t _ hh] at h0; simpa using h0
    obtain ⟨rfl, rfl⟩ := e0
    rw [heap_setCell_same w p 1 _ t _ hh]; rfl
  by_cases hb : bad = true
  · subst hb
    exact (off_bad p A _ c n right w h0 h1 hf1).mono fun e w' ⟨he, hw⟩ => by subst hw; exact ⟨_, he, hbad.1, .inl ⟨.inl rfl, rfl, hbad.2⟩⟩
  have hb' : bad = false := by simpa using hb
  subst hb'
  by_cases hri : right = true
  · subst hri
    by_cases hl : xs.length < n
    · exact (off_short p A _ c n w h0 h1 hf1 hl).mono fun e w' ⟨he, hw⟩ => by subst hw; exact ⟨_, he, hbad.1, .inl ⟨.inr (.inr hl), rfl, hbad.2⟩⟩
    · have hn0 := hn rfl
      obtain ⟨_, A', c', e, hc1, hc2, hc3⟩ := id hr
      simp only [Value.slice.injEq, true_and] at e
      obtain ⟨rfl, rfl⟩ := e
      obtain ⟨b, o, rfl, hcell⟩ := hc3 (by intro hx; have := congrArg List.length hx; simp [bs_length] at this; subst this; simp at hl; omega)
      refine (off_ok p b o _ c n w h0 h1 hf0 hf1 (by omega) hc1 hn0 (by simp only [maxLen] at hc2; omega) _ (hid rfl)).mono fun e w' ⟨he, m, hw⟩ => ?_
      have hg : w.grownBy w' (some p) := by
        subst hw
        exact grown_drewN (grown_trans (grown_setCell w p 1 _) (grown_setCell _ p 0 _)) m
      have hd : (xs.drop n).length = xs.length - n := by simp
      refine ⟨_, he, hg, .inr ⟨rfl, rfl, by omega, ⟨b, o, rfl⟩, h.change hg ?_ (bs_plain _), ?_⟩⟩
      · refine ⟨by simp [bs_length]; omega, _, n, rfl, Nat.le_refl _, by omega, fun _ => ⟨b, o, rfl, fun j u hj => hcell j u ?_⟩⟩
        rw [bs_take, List.getElem?_take] at hj
        split at hj
        · exact hj
        · exact absurd hj (by simp)
      · have hrest : RV w (.slice (if c = n then some ⟨b, o, none⟩ else some ⟨b, o + n, none⟩) (xs.length - n) (c - n)) (xs.drop n).length 1 (bs (xs.drop n)) := by
          rw [hd]
          refine ⟨by simp [bs_length], _, c - n, rfl, by omega, by omega, fun hx => ?_⟩
          have hcn : ¬ c = n := by intro e; apply hx; have : xs.drop n = [] := by simp; omega
                                   rw [this]; rfl
          rw [if_neg hcn]
          refine ⟨b, o + n, rfl, fun j u hj => ?_⟩
          rw [Nat.add_assoc]
          exact hcell _ u (by rw [bs_drop] at hj; simpa using hj)
        have hr2 := h.change hg hrest (bs_plain _)
        obtain ⟨A', c', hh, _⟩ := h
        have e0 : A' = some ⟨b, o, none⟩ ∧ c' = c := by rw [cell_of_row w p 0 _ t _ hh] at h0; simpa using h0
        obtain ⟨rfl, rfl⟩ := e0
        refine ⟨(if c' = n then some ⟨b, o, none⟩ else some ⟨b, o + n, none⟩), c' - n, ?_, ?_⟩
        rotate_left
        · rw [hd] at hr2 ⊢
          refine ⟨hr2, fun _ => ?_⟩
          obtain ⟨o', e'⟩ := hkb (by intro e; subst e; simp at hl; omega)
          simp only [Option.some.injEq, Addr.mk.injEq] at e'
          obtain ⟨rfl, _⟩ := e'
          split <;> exact ⟨_, rfl⟩
        · subst hw
          rw [heap_drewN, heap_setCell_same _ p 0 _ t _ (heap_setCell_same w p 1 _ t _ hh), hd]
          rfl
  · have : right = false := by simpa using hri
    subst this
    exact (off_wrong p A _ c n w h0 h1 hf1).mono fun e w' ⟨he, hw⟩ => by subst hw; exact ⟨_, he, hbad.1, .inl ⟨.inr (.inl rfl), rfl, hbad.2⟩⟩
end Go.Proofs.YtpgcepfecmkkaaaDoor
