/-
  The walks of the layer pack: the methods of a Cut.
-/
import Derived.Test.YtpgcepfecmkkaaaDoorPackB
import Derived.Deep.RegionWith
set_option linter.unusedVariables false
set_option linter.unusedSimpArgs false
namespace Go.Proofs.YtpgcepfecmkkaaaDoor
open Go.RowKit
attribute [local go_sem] eq_bytes_nil
variable {kb : Nat}

/-- What v is as a Cut: nobody's, or a block. -/
def CutV (w : World) (v : Value) (kb : Nat) (xs : List UInt8) (bad : Bool) : Prop :=
  (v = .pointer none ∧ xs = [] ∧ bad = true) ∨ ∃ p, v = .pointer (some ⟨p, 0, none⟩) ∧ CutAt 70 w p kb xs bad
def cutBlk : Value → Option Nat
  | .pointer (some a) => some a.block
  | _ => none
/-- What stands in front is what was handed on. -/
def Backs (w w1 : World) (v : Value) (q kb : Nat) (t : TypeId) : Prop :=
  ∀ w2 xs' bad', w1.grownBy w2 (some q) → CutAt t w2 q kb xs' bad' → (v = .pointer none → xs' = [] ∧ bad' = true) → CutV w2 v kb xs' bad' ∧ w.grownBy w2 (cutBlk v)
theorem CutAt.new (t : TypeId) (w : World) (bad : Bool) : CutAt t (w.alloc (.cells #[.slice none 0 0, .bool bad] t)) w.heap.size kb [] bad :=
  ⟨none, 0, heap_alloc_new w _, RV_nil _ _, fun h => absurd rfl h⟩
theorem in_calls (w : World) (v : Value) (xs : List UInt8) (bad : Bool) (h : CutV w v kb xs bad) :
    Calls Tryd.prog 47 #[v] w fun e w' => ∃ q t, e = .returned (.pointer (some ⟨q, 0, none⟩)) ∧ CutAt t w' q kb xs bad ∧ Backs w w' v q kb t ∧ w.heap.size ≤ w'.heap.size := by
  rcases h with ⟨rfl, rfl, rfl⟩ | ⟨p, rfl, h⟩
  · have hC := CutAt.new (kb := kb) 68 w true
    have hB : Backs w (w.alloc (.cells #[.slice none 0 0, .bool true] 68)) (.pointer none) w.heap.size kb 68 := by
      intro w2 xs' bad' hg hc hn
      obtain ⟨rfl, rfl⟩ := hn rfl
      refine ⟨.inl ⟨rfl, rfl, rfl⟩, ?_⟩
      have := ((Below.refl w.heap.size w).alloc (Nat.le_refl _) _).grown hg (by simp) (by simp)
      exact grown_of_below this none
    go_enter Tryd.func47, Tryd.ntmps47
    go_wp2
    go_ret
    exact ⟨_, _, rfl, hC, hB, by simp⟩
  · go_enter Tryd.func47, Tryd.ntmps47
    go_wp2
    go_ret
    exact ⟨p, _, rfl, h, fun w2 xs' bad' hg hc _ => ⟨.inr ⟨p, rfl, hc⟩, hg⟩, Nat.le_refl _⟩

/-! ### a number -/
def numS (most : Nat) (xs : List UInt8) (bad : Bool) : Nat × List UInt8 × Bool :=
  match peekS xs bad with
  | some (x, s) => if x ≤ most then (x, xs.drop s, false) else (0, xs, true)
  | none => (0, xs, true)
theorem first_facts {xs : List UInt8} {x s : Nat} (h : first xs = some (x, s)) : 0 < s ∧ s ≤ xs.length ∧ s ≤ 9 ∧ x < 18446744073709551616 := by
  cases xs with
  | nil => simp [first] at h
  | cons k r =>
    simp only [first] at h
    split at h
    · simp at h
    · rename_i hc
      simp only [Option.some.injEq, Prod.mk.injEq] at h
      obtain ⟨rfl, rfl⟩ := h
      have h8 : k.toNat ≤ 8 := by omega
      exact ⟨by omega, by simp; omega, by omega, val_lt64 _ (by rw [List.length_take]; omega)⟩
theorem peek_facts {xs : List UInt8} {bad : Bool} {x s : Nat} (h : peekS xs bad = some (x, s)) : bad = false ∧ 0 < s ∧ s ≤ xs.length ∧ s ≤ 9 ∧ x < 18446744073709551616 := by
  unfold peekS at h
  split at h
  · simp at h
  · rename_i hb; exact ⟨by simpa using hb, first_facts h⟩
theorem CutAt.drewN {t : TypeId} {w : World} {p : Nat} {xs : List UInt8} {bad : Bool} (h : CutAt t w p kb xs bad) (m : Nat) : CutAt t (w.drewN m) p kb xs bad := by
  obtain ⟨A, c, h1, h2, h3⟩ := h
  exact ⟨A, c, by rw [heap_drewN]; exact h1, h2.below (below_drewN (Below.refl _ _) m), h3⟩

theorem cnum_calls (w : World) (v : Value) (xs : List UInt8) (bad : Bool) (h : CutV w v kb xs bad) (most : Nat) (hmost : most < 18446744073709551616) (N : Nat) (xs' : List UInt8) (bad' : Bool) (hN : Hid (numS most xs bad = (N, xs', bad'))) :
    Calls Tryd.prog 43 #[v, .int .u64 (Int.ofNat most)] w fun e w' => e = .returned (.int .u64 (Int.ofNat N)) ∧ CutV w' v kb xs' bad' ∧ w.grownBy w' (cutBlk v) := by
  have hnone : v = .pointer none → xs = [] ∧ bad = true := fun e => by
    rcases h with ⟨_, h1, h2⟩ | ⟨p, h1, _⟩
    · exact ⟨h1, h2⟩
    · rw [e] at h1; simp at h1
  have hN' := hN.out
  unfold numS at hN'
  cases hp : peekS xs bad with
  | none =>
    rw [hp] at hN'
    simp only [Prod.mk.injEq] at hN'
    obtain ⟨rfl, rfl, rfl⟩ := hN'
    have HP := hid hp
    clear hp hN
    have hnone' : v = .pointer none → xs = [] ∧ true = true := fun e => ⟨(hnone e).1, rfl⟩
    have HN := hid hnone'
    clear hnone hnone'
    go_enter Tryd.func43, Tryd.ntmps43
    go_wp2_with (first | (go_at_call 47; refine (in_calls _ _ xs bad h).mono ?_; rintro e w1 ⟨q, t, rfl, hc, hb, hz⟩) | (go_at_call 55; refine (peek_calls _ _ _ xs bad hc).mono ?_; rintro e w2 ⟨rfl, m, rfl⟩; rw [HP.out]; unfold peekV) | (go_at_call 56; refine (off_calls _ _ _ xs bad (hc.drewN m) 0 false (by simp)).mono ?_; rintro e w2 ⟨u, rfl, hg, hu⟩; rcases hu with ⟨_, rfl, hcu⟩ | ⟨_, hf, _⟩; rotate_left; exact absurd hf (by simp)))
    go_ret
    exact ⟨rfl, hb _ _ _ (grown_trans (grown_drewN (World.grownBy.refl _ _) m) hg) hcu (fun e => ⟨(HN.out e).1, rfl⟩)⟩
  | some y =>
    obtain ⟨x, s⟩ := y
    rw [hp] at hN'
    obtain ⟨rfl, hs0, hsl, hs9, hx⟩ := peek_facts hp
    have hv0 : v ≠ .pointer none := fun e => absurd (hnone e).2 (by simp)
    have HP := hid hp
    clear hp hN hnone
    have hsz : (0 : Int) < (s : Int) := by omega
    by_cases hle : x ≤ most
    · have hN2 : (x, xs.drop s, false) = (N, xs', bad') := by simpa [hle] using hN'
      simp only [Prod.mk.injEq] at hN2
      obtain ⟨rfl, rfl, rfl⟩ := hN2
      clear hN'
      have hle0 : decide (x ≤ most) = true := decide_eq_true hle
      go_enter Tryd.func43, Tryd.ntmps43
      go_wp2_with (first | (go_at_call 47; refine (in_calls _ _ xs false h).mono ?_; rintro e w1 ⟨q, t, rfl, hc, hb, hz⟩) | (go_at_call 55; refine (peek_calls _ _ _ xs false hc).mono ?_; rintro e w2 ⟨rfl, m, rfl⟩; rw [HP.out]; unfold peekV) | (go_at_call 56; refine (off_calls _ _ _ xs false (hc.drewN m) s true (fun _ => hs0)).mono ?_; rintro e w2 ⟨u, rfl, hg, hu⟩; rcases hu with ⟨hf, _⟩ | ⟨_, _, _, ⟨ub, uo, rfl⟩, hru, hcu⟩; exact absurd hf (by simp; omega)))
      go_ret
      exact ⟨rfl, hb _ _ _ (grown_trans (grown_drewN (World.grownBy.refl _ _) m) hg) hcu (fun e => absurd e hv0)⟩
    · have hN2 : (0, xs, true) = (N, xs', bad') := by simpa [hle] using hN'
      simp only [Prod.mk.injEq] at hN2
      obtain ⟨rfl, rfl, rfl⟩ := hN2
      clear hN'
      have hle0 : decide (x ≤ most) = false := decide_eq_false hle
      go_enter Tryd.func43, Tryd.ntmps43
      go_wp2_with (first | (go_at_call 47; refine (in_calls _ _ xs false h).mono ?_; rintro e w1 ⟨q, t, rfl, hc, hb, hz⟩) | (go_at_call 55; refine (peek_calls _ _ _ xs false hc).mono ?_; rintro e w2 ⟨rfl, m, rfl⟩; rw [HP.out]; unfold peekV) | (go_at_call 56; refine (off_calls _ _ _ xs false (hc.drewN m) s false (by simp)).mono ?_; rintro e w2 ⟨u, rfl, hg, hu⟩; rcases hu with ⟨_, rfl, hcu⟩ | ⟨_, hf, _⟩; rotate_left; exact absurd hf (by simp)))
      go_ret
      exact ⟨rfl, hb _ _ _ (grown_trans (grown_drewN (World.grownBy.refl _ _) m) hg) hcu (fun e => absurd e hv0)⟩
theorem off_calls2 (t : TypeId) (w : World) (p : Nat) (xs : List UInt8) (bad : Bool) (h : CutAt t w p kb xs bad) (N : Int) (n : Nat) (hN : N = (n : Int)) (right : Bool) (hn : right = true → 0 < n) :
    Calls Tryd.prog 56 #[.pointer (some ⟨p, 0, none⟩), .int .i64 N, .bool right] w fun e w' => ∃ v, e = .returned v ∧ w.grownBy w' (some p) ∧
      ((bad = true ∨ right = false ∨ xs.length < n) ∧ v = .slice none 0 0 ∧ CutAt t w' p kb xs true ∨ bad = false ∧ right = true ∧ n ≤ xs.length ∧ (∃ b o, v = .slice (some ⟨b, o, none⟩) n n) ∧ RV w' v n 1 (bs (xs.take n)) ∧ CutAt t w' p kb (xs.drop n) false) := by
  subst hN; exact off_calls t w p xs bad h n right hn
/-! ### a blob -/
def blobS (most : Int) (xs : List UInt8) (bad : Bool) : Option (Nat × Nat) :=
  match peekS xs bad with
  | some (x, s) => if 0 ≤ most ∧ (x : Int) ≤ most ∧ x + s ≤ xs.length then some (x, s) else none
  | none => none
/-- What blob leaves. -/
def BlobQ (t : TypeId) (q kb : Nat) (w : World) (xs : List UInt8) (o : Option (Nat × Nat)) (e : Ending) (w' : World) : Prop :=
  w.grownBy w' (some q) ∧ match o with
  | none => (∃ s : Int, e = .returned (.tuple #[.slice none 0 0, .int .i64 s])) ∧ CutAt t w' q kb xs true
  | some (x, s) => ∃ b o, e = .returned (.tuple #[.slice (some ⟨b, o, none⟩) (s + x) (s + x), .int .i64 (Int.ofNat s)]) ∧ RV w' (.slice (some ⟨b, o, none⟩) (s + x) (s + x)) (s + x) 1 (bs (xs.take (s + x))) ∧ CutAt t w' q kb (xs.drop (s + x)) false

theorem blob_none (t : TypeId) (w : World) (q : Nat) (xs : List UInt8) (bad : Bool) (h : CutAt t w q kb xs bad) (most : Int) (hp : peekS xs bad = none) :
    Calls Tryd.prog 57 #[.pointer (some ⟨q, 0, none⟩), .int .i64 most] w (BlobQ t q kb w xs none) := by
  have HP := hid hp
  clear hp
  go_enter Tryd.func57, Tryd.ntmps57
  go_wp2_with (first | (go_at_call 55; refine (peek_calls _ _ _ xs bad h).mono ?_; rintro e w2 ⟨rfl, m, rfl⟩; rw [HP.out]; unfold peekV) | (go_at_call 56; refine (off_calls _ _ _ xs bad (h.drewN m) 0 false (by simp)).mono ?_; rintro e w2 ⟨u, rfl, hg, hu⟩; rcases hu with ⟨_, rfl, hcu⟩ | ⟨_, hf, _⟩; rotate_left; exact absurd hf (by simp)))
  go_ret2
  exact ⟨grown_trans (grown_drewN (World.grownBy.refl _ _) m) hg, ⟨_, rfl⟩, hcu⟩
set_option maxRecDepth 100000 in
theorem blob_some (t : TypeId) (w : World) (q : Nat) (xs : List UInt8) (h : CutAt t w q kb xs false) (most : Int) (x s : Nat) (hp : peekS xs false = some (x, s)) (hm : most ≤ 9223372036854775807) (hxl : xs.length ≤ 9223372036854775807) :
    Calls Tryd.prog 57 #[.pointer (some ⟨q, 0, none⟩), .int .i64 most] w (BlobQ t q kb w xs (if 0 ≤ most ∧ (x : Int) ≤ most ∧ x + s ≤ xs.length then some (x, s) else none)) := by
  obtain ⟨_, hs0, hsl, hs9, hx⟩ := peek_facts hp
  obtain ⟨A, c, h0, h1, hr, hf0, hf1, hkb⟩ := h.cells
  have HP := hid hp
  have hsz : (0 : Int) < (s : Int) := by omega
  clear hp
  by_cases hm0 : 0 ≤ most
  · obtain ⟨k, rfl⟩ := Int.eq_ofNat_of_zero_le hm0
    have hmx : max (k : Int) 0 = (k : Int) := by omega
    by_cases hxk : x ≤ k
    · have hd1 : decide (x ≤ k) = true := decide_eq_true hxk
      by_cases hfit : x + s ≤ xs.length
      · have hd2 : decide ((x : Int) ≤ (xs.length : Int) - (s : Int)) = true := decide_eq_true (by omega)
        rw [if_pos ⟨hm0, by omega, hfit⟩]
        go_enter Tryd.func57, Tryd.ntmps57
        go_wp2_with (first | (go_at_call 55; refine (peek_calls _ _ _ xs false h).mono ?_; rintro e w2 ⟨rfl, m, rfl⟩; rw [HP.out]; unfold peekV) | (go_at_call 56; refine (off_calls2 _ _ _ xs false (h.drewN m) _ (s + x) (by omega) true (fun _ => by omega)).mono ?_; rintro e w2 ⟨u, rfl, hg, hu⟩; rcases hu with ⟨hf, _⟩ | ⟨_, _, _, ⟨ub, uo, rfl⟩, hru, hcu⟩; exact absurd hf (by simp; omega)))
        go_ret2
        exact ⟨grown_trans (grown_drewN (World.grownBy.refl _ _) m) hg, ub, uo, rfl, hru, hcu⟩
      · have hd2 : decide ((x : Int) ≤ (xs.length : Int) - (s : Int)) = false := decide_eq_false (by omega)
        rw [if_neg (fun hh => hfit hh.2.2)]
        go_enter Tryd.func57, Tryd.ntmps57
        go_wp2_with (first | (go_at_call 55; refine (peek_calls _ _ _ xs false h).mono ?_; rintro e w2 ⟨rfl, m, rfl⟩; rw [HP.out]; unfold peekV) | (go_at_call 56; refine (off_calls _ _ _ xs false (h.drewN m) s false (by simp)).mono ?_; rintro e w2 ⟨u, rfl, hg, hu⟩; rcases hu with ⟨_, rfl, hcu⟩ | ⟨_, hf, _⟩; rotate_left; exact absurd hf (by simp)))
        go_ret2
        exact ⟨grown_trans (grown_drewN (World.grownBy.refl _ _) m) hg, ⟨_, rfl⟩, hcu⟩
    · have hd1 : decide (x ≤ k) = false := decide_eq_false hxk
      rw [if_neg (fun hh => hxk (by omega))]
      go_enter Tryd.func57, Tryd.ntmps57
      go_wp2_with (first | (go_at_call 55; refine (peek_calls _ _ _ xs false h).mono ?_; rintro e w2 ⟨rfl, m, rfl⟩; rw [HP.out]; unfold peekV) | (go_at_call 56; refine (off_calls _ _ _ xs false (h.drewN m) s false (by simp)).mono ?_; rintro e w2 ⟨u, rfl, hg, hu⟩; rcases hu with ⟨_, rfl, hcu⟩ | ⟨_, hf, _⟩; rotate_left; exact absurd hf (by simp)))
      go_ret2
      exact ⟨grown_trans (grown_drewN (World.grownBy.refl _ _) m) hg, ⟨_, rfl⟩, hcu⟩
  · have hd0 : decide (0 ≤ most) = false := decide_eq_false hm0
    rw [if_neg (fun hh => hm0 hh.1)]
    go_enter Tryd.func57, Tryd.ntmps57
    go_wp2_with (first | (go_at_call 55; refine (peek_calls _ _ _ xs false h).mono ?_; rintro e w2 ⟨rfl, m, rfl⟩; rw [HP.out]; unfold peekV) | (go_at_call 56; refine (off_calls _ _ _ xs false (h.drewN m) s false (by simp)).mono ?_; rintro e w2 ⟨u, rfl, hg, hu⟩; rcases hu with ⟨_, rfl, hcu⟩ | ⟨_, hf, _⟩; rotate_left; exact absurd hf (by simp)))
    go_ret2
    exact ⟨grown_trans (grown_drewN (World.grownBy.refl _ _) m) hg, ⟨_, rfl⟩, hcu⟩
theorem rblob_calls (t : TypeId) (w : World) (q : Nat) (xs : List UInt8) (bad : Bool) (h : CutAt t w q kb xs bad) (most : Int) (hm : most ≤ 9223372036854775807) :
    Calls Tryd.prog 57 #[.pointer (some ⟨q, 0, none⟩), .int .i64 most] w (BlobQ t q kb w xs (blobS most xs bad)) := by
  obtain ⟨A, c, h0, h1, hr, hf0, hf1, hkb⟩ := h.cells
  cases hp : peekS xs bad with
  | none => unfold blobS; rw [hp]; exact blob_none t w q xs bad h most hp
  | some y =>
    obtain ⟨x, s⟩ := y
    obtain ⟨rfl, _⟩ := peek_facts hp
    unfold blobS; rw [hp]
    exact blob_some t w q xs h most x s hp hm hr.max
/-- What a blob is, what is left, and whether there was a fault. -/
def blobR (most : Int) (xs : List UInt8) (bad : Bool) : List UInt8 × List UInt8 × Bool :=
  match blobS most xs bad with
  | some (x, s) => ((xs.drop s).take x, xs.drop (s + x), false)
  | none => ([], xs, true)
theorem blobS_facts {most : Int} {xs : List UInt8} {bad : Bool} {x s : Nat} (h : blobS most xs bad = some (x, s)) : bad = false ∧ 0 < s ∧ s ≤ 9 ∧ x + s ≤ xs.length ∧ 0 ≤ most ∧ (x : Int) ≤ most := by
  unfold blobS at h
  cases hp : peekS xs bad with
  | none => rw [hp] at h; simp at h
  | some y =>
    obtain ⟨x', s'⟩ := y
    rw [hp] at h
    obtain ⟨h1, h2, h3, h4, h5⟩ := peek_facts hp
    simp only at h
    split at h
    · rename_i hc
      simp only [Option.some.injEq, Prod.mk.injEq] at h
      obtain ⟨rfl, rfl⟩ := h
      exact ⟨h1, h2, h4, hc.2.2, hc.1, hc.2.1⟩
    · simp at h
theorem CutV.nobody {w : World} {v : Value} {xs : List UInt8} {bad : Bool} (h : CutV w v kb xs bad) : v = .pointer none → xs = [] ∧ bad = true := fun e => by
  rcases h with ⟨_, h1, h2⟩ | ⟨p, h1, _⟩
  · exact ⟨h1, h2⟩
  · rw [e] at h1; simp at h1
theorem Backs.grown {w w1 : World} {v : Value} {q : Nat} {t : TypeId} (hb : Backs w w1 v q kb t) {w2 : World} {xs' : List UInt8} {bad' : Bool} (hg : w1.grownBy w2 (some q)) (hc : CutAt t w2 q kb xs' bad') (hn : v = .pointer none → xs' = [] ∧ bad' = true) {w3 : World} (h3 : Below w2.heap.size w2 w3) : CutV w3 v kb xs' bad' ∧ w.grownBy w3 (cutBlk v) := by
  refine hb w3 xs' bad' (grown_trans hg (grown_of_below h3 _)) ?_ hn
  obtain ⟨A, c, h1, h2, h4⟩ := hc
  exact ⟨A, c, by rw [h3.block q (Array.getElem?_eq_some_iff.1 h1).1]; exact h1, h2.below h3, h4⟩

theorem RV_zero (w : World) (A : Option Addr) (c sz : Nat) (hc : c ≤ maxLen) : RV w (.slice A 0 c) 0 sz [] := ⟨by simp, A, c, rfl, by omega, Nat.zero_le _, fun h => absurd rfl h⟩
theorem RV_sub {w : World} {b o s x : Nat} {xs : List UInt8} (h : RV w (.slice (some ⟨b, o, none⟩) (s + x) (s + x)) (s + x) 1 (bs (xs.take (s + x)))) (hl : s + x ≤ xs.length) : RV w (.slice (some ⟨b, o + s, none⟩) x x) x 1 (bs ((xs.drop s).take x)) := by
  obtain ⟨h1, A, c, e, h2, h3, h4⟩ := h
  simp only [Value.slice.injEq, true_and] at e
  obtain ⟨rfl, rfl⟩ := e
  refine ⟨by simp [bs_length]; omega, _, x, rfl, Nat.le_refl _, by omega, fun hx => ⟨b, o + s, rfl, fun j u hj => ?_⟩⟩
  have hj' : j < x := by
    have := (List.getElem?_eq_some_iff.1 hj).1
    simp [bs_length] at this; omega
  obtain ⟨b', o', e', hc⟩ := h4 (by intro hh; have hh2 := congrArg List.length hh; rw [bs_length, List.length_take, List.length_nil] at hh2; omega)
  simp only [Option.some.injEq, Addr.mk.injEq, and_true] at e'
  obtain ⟨rfl, rfl⟩ := e'
  rw [Nat.add_assoc]
  refine hc _ u ?_
  rw [bs_take, bs_drop, List.getElem?_take, if_pos hj', List.getElem?_drop] at hj
  rw [bs_take, List.getElem?_take, if_pos (by omega)]
  exact hj

theorem conv_bytes {w : World} {v : Value} {n : Nat} {xs : List UInt8} (h : RV w v n 1 (bs xs)) : Sem.run Tryd.prog (convert 36 9 v) w = .ok (.string (st xs)) w :=
  conv_rv 36 5 9 Tryd.underlying36 Tryd.underlying5 Tryd.underlying9 h
set_option maxRecDepth 100000 in
theorem ctext_calls (w : World) (v : Value) (xs : List UInt8) (bad : Bool) (h : CutV w v kb xs bad) (most : Int) (hm : most ≤ 9223372036854775807) (D : List UInt8) (xs' : List UInt8) (bad' : Bool) (hN : Hid (blobR most xs bad = (D, xs', bad'))) :
    Calls Tryd.prog 44 #[v, .int .i64 most] w fun e w' => e = .returned (.string (st D)) ∧ CutV w' v kb xs' bad' ∧ w.grownBy w' (cutBlk v) := by
  have hnone := h.nobody
  have hN' := hN.out
  unfold blobR at hN'
  cases hp : blobS most xs bad with
  | none =>
    rw [hp] at hN'
    simp only [Prod.mk.injEq] at hN'
    obtain ⟨rfl, rfl, rfl⟩ := hN'
    have HP := hid hp
    have HN := hid hnone
    clear hnone hp hN
    go_enter Tryd.func44, Tryd.ntmps44
    go_wp2_with (first | (go_at_call 47; refine (in_calls _ _ xs bad h).mono ?_; rintro e w1 ⟨q, t, rfl, hc, hb, hz⟩) | (go_at_call 57; refine (rblob_calls _ _ _ xs bad hc most hm).mono ?_; rintro e w2 hq; rw [HP.out] at hq; obtain ⟨hg, ⟨s, rfl⟩, hcu⟩ := hq))
    go_ret
    exact ⟨rfl, hb _ _ _ hg hcu (fun e => ⟨(HN.out e).1, rfl⟩)⟩
  | some y =>
    obtain ⟨x, s⟩ := y
    rw [hp] at hN'
    simp only [Prod.mk.injEq] at hN'
    obtain ⟨rfl, rfl, rfl⟩ := hN'
    obtain ⟨rfl, hs0, hs9, hxs, _, _⟩ := blobS_facts hp
    have hv0 : v ≠ .pointer none := fun e => absurd (hnone e).2 (by simp)
    have HP := hid hp
    clear hnone hp hN
    by_cases hx0 : x = 0
    · subst hx0
      go_enter Tryd.func44, Tryd.ntmps44
      go_wp2_with (first | (go_at_call 47; refine (in_calls _ _ xs false h).mono ?_; rintro e w1 ⟨q, t, rfl, hc, hb, hz⟩) | (go_at_call 57; refine (rblob_calls _ _ _ xs false hc most hm).mono ?_; rintro e w2 hq; rw [HP.out] at hq; obtain ⟨hg, ub, uo, rfl, hru, hcu⟩ := hq; have hcv := conv_bytes (RV_zero w2 (some ⟨ub, uo, none⟩) 0 1 (by simp [maxLen])) (xs := [])))
      go_ret
      exact ⟨by simp, hb _ _ _ hg hcu (fun e => absurd e hv0)⟩
    · have hne : ¬ s + x = s := by omega
      go_enter Tryd.func44, Tryd.ntmps44
      go_wp2_with (first | (go_at_call 47; refine (in_calls _ _ xs false h).mono ?_; rintro e w1 ⟨q, t, rfl, hc, hb, hz⟩) | (go_at_call 57; refine (rblob_calls _ _ _ xs false hc most hm).mono ?_; rintro e w2 hq; rw [HP.out] at hq; obtain ⟨hg, ub, uo, rfl, hru, hcu⟩ := hq; have hcv := conv_bytes (RV_sub hru (by omega))))
      go_ret
      exact ⟨rfl, hb _ _ _ hg hcu (fun e => absurd e hv0)⟩
theorem CutV.below {w w' : World} {v : Value} {xs : List UInt8} {bad : Bool} (h : CutV w v kb xs bad) (hb : Below w.heap.size w w') : CutV w' v kb xs bad := by
  rcases h with h | ⟨p, rfl, A, c, h1, h2, h3⟩
  · exact .inl h
  · exact .inr ⟨p, rfl, A, c, by rw [hb.block p (Array.getElem?_eq_some_iff.1 h1).1]; exact h1, h2.below hb, h3⟩
theorem CutV.lt {w : World} {v : Value} {xs : List UInt8} {bad : Bool} (h : CutV w v kb xs bad) (k : Nat) (hk : cutBlk v = some k) : k < w.heap.size := by
  rcases h with ⟨rfl, _, _⟩ | ⟨p, rfl, A, c, h1, _⟩
  · simp [cutBlk] at hk
  · have : p = k := by simpa [cutBlk] using hk
    subst this; exact (Array.getElem?_eq_some_iff.1 h1).1
theorem CutV.kb_lt {w : World} {v : Value} {xs : List UInt8} {bad : Bool} (h : CutV w v kb xs bad) (hx : xs ≠ []) : kb < w.heap.size := by
  rcases h with ⟨_, rfl, _⟩ | ⟨p, rfl, A, c, h1, h2, h3⟩
  · exact absurd rfl hx
  · obtain ⟨o, rfl⟩ := h3 hx
    have hx0 : 0 < xs.length := by cases xs with | nil => exact absurd rfl hx | cons _ _ => simp
    obtain ⟨b, o', u, e, _, _, hb⟩ := h2.at_ 0 hx0
    simp only [Option.some.injEq, Addr.mk.injEq] at e
    obtain ⟨rfl, _⟩ := e
    exact hb
theorem RV.keepB {w w' : World} {A : Option Addr} {n c sz : Nat} {xs : List Value} (h : RV w (.slice A n c) n sz xs) (hk : xs ≠ [] → ∃ o, A = some ⟨kb, o, none⟩) (hh : xs ≠ [] → w'.heap[kb]? = w.heap[kb]?) : RV w' (.slice A n c) n sz xs := by
  obtain ⟨hl, A', c', e, h1, h2, h3⟩ := h
  simp only [Value.slice.injEq, true_and] at e
  obtain ⟨rfl, rfl⟩ := e
  refine ⟨hl, A, c, rfl, h1, h2, fun hx => ?_⟩
  obtain ⟨b, o, e, hc⟩ := h3 hx
  obtain ⟨o', e'⟩ := hk hx
  refine ⟨b, o, e, fun j u hj => ?_⟩
  rw [e'] at e
  simp only [Option.some.injEq, Addr.mk.injEq] at e
  obtain ⟨rfl, _⟩ := e
  exact (World.cell?_of_block (w := w) (hh hx)).trans (hc j u hj)
/-- Another block is written. -/
theorem CutV.other {w w' : World} {v : Value} {xs : List UInt8} {bad : Bool} (h : CutV w v kb xs bad) {g : Option Nat} (hg : w.grownBy w' g) (h1 : cutBlk v = none ∨ cutBlk v ≠ g) (h2 : xs ≠ [] → some kb ≠ g) : CutV w' v kb xs bad := by
  rcases h with h | ⟨p, rfl, A, c, h3, h4, h5⟩
  · exact .inl h
  · refine .inr ⟨p, rfl, A, c, ?_, h4.keepB (fun hx => h5 (by intro e; subst e; exact hx rfl)) fun hx => ?_, h5⟩
    · rw [hg.block p (Array.getElem?_eq_some_iff.1 h3).1 (by rcases h1 with h1 | h1; simp [cutBlk] at h1; exact h1)]; exact h3
    · have hx' : xs ≠ [] := by intro e; subst e; exact hx rfl
      refine hg.block kb ?_ (h2 hx')
      exact CutV.kb_lt (bad := bad) (v := .pointer (some ⟨p, 0, none⟩)) (.inr ⟨p, rfl, A, c, h3, h4, h5⟩) hx'
theorem left_calls (w : World) (v : Value) (xs : List UInt8) (bad : Bool) (h : CutV w v kb xs bad) :
    Calls Tryd.prog 24 #[v] w fun e w' => e = .returned (.int .i64 (Int.ofNat xs.length)) ∧ w = w' := by
  rcases h with ⟨rfl, rfl, rfl⟩ | ⟨p, rfl, h⟩
  · go_enter Tryd.func24, Tryd.ntmps24
    go_wp2
    go_ret
    exact ⟨rfl, rfl⟩
  · obtain ⟨A, c, h0, h1, hr, hf0, hf1, hkb⟩ := h.cells
    go_enter Tryd.func24, Tryd.ntmps24
    go_wp2
    go_ret
    exact ⟨rfl, rfl⟩
theorem err_calls (w : World) (v : Value) (xs : List UInt8) (bad : Bool) (h : CutV w v kb xs bad) (E : Int) (hE : Hid (E = if bad then 2 else 0)) :
    Calls Tryd.prog 25 #[v] w fun e w' => e = .returned (.int .i64 E) ∧ Below w.heap.size w w' := by
  rcases h with ⟨rfl, rfl, rfl⟩ | ⟨p, rfl, h⟩
  · go_enter Tryd.func25, Tryd.ntmps25
    go_wp2
    go_ret
    exact ⟨by rw [hE.out]; rfl, (Below.refl _ _).alloc (Nat.le_refl _) _⟩
  · obtain ⟨A, c, h0, h1, hr, hf0, hf1, hkb⟩ := h.cells
    cases bad with
    | true =>
      go_enter Tryd.func25, Tryd.ntmps25
      go_wp2
      go_ret
      exact ⟨by rw [hE.out]; rfl, Below.refl _ _⟩
    | false =>
      go_enter Tryd.func25, Tryd.ntmps25
      go_wp2
      go_ret
      exact ⟨by rw [hE.out]; rfl, Below.refl _ _⟩
theorem CutAt.failed {t : TypeId} {w : World} {p : Nat} {xs : List UInt8} {bad : Bool} (h : CutAt t w p kb xs bad) (b : Bool) : CutAt t (w.setCell ⟨p, 1, none⟩ (.bool b)) p kb xs b := by
  have hg := grown_setCell w p 1 (.bool b)
  obtain ⟨A, c, h1, h2, h3⟩ := id h
  exact ⟨A, c, by rw [heap_setCell_same w p 1 _ t _ h1]; rfl, h.change hg h2 (bs_plain xs), h3⟩
theorem fail_calls (w : World) (v : Value) (xs : List UInt8) (bad : Bool) (h : CutV w v kb xs bad) :
    Calls Tryd.prog 45 #[v] w fun e w' => e = .returned (.tuple #[]) ∧ CutV w' v kb xs true ∧ w.grownBy w' (cutBlk v) := by
  rcases h with ⟨rfl, rfl, rfl⟩ | ⟨p, rfl, h⟩
  · go_enter Tryd.func45, Tryd.ntmps45
    go_wp2
    go_end0
    refine ⟨rfl, .inl ⟨rfl, rfl, rfl⟩, grown_of_below ?_ _⟩
    exact (Below.refl _ _).alloc (Nat.le_refl _) _
  · obtain ⟨A, c, h0, h1, hr, hf0, hf1, hkb⟩ := h.cells
    go_enter Tryd.func45, Tryd.ntmps45
    go_wp2
    go_end0
    exact ⟨rfl, .inr ⟨p, rfl, h.failed true⟩, grown_setCell w p 1 _⟩
theorem done_calls (w : World) (v : Value) (xs : List UInt8) (bad : Bool) (h : CutV w v kb xs bad) (b : Bool) (hb : Hid (b = (bad || decide (0 < xs.length)))) (E : Int) (hE : Hid (E = if b then 2 else 0)) :
    Calls Tryd.prog 27 #[v] w fun e w' => e = .returned (.int .i64 E) ∧ CutV w' v kb xs b ∧ w.grownBy w' (cutBlk v) := by
  by_cases hx : 0 < xs.length
  · have hbt : b = true := by rw [hb.out, decide_eq_true hx]; simp
    subst hbt
    go_enter Tryd.func27, Tryd.ntmps27
    go_wp2_with (first | (go_at_call 24; refine (left_calls _ _ xs bad h).mono ?_; rintro e w1 ⟨rfl, rfl⟩) | (go_at_call 45; refine (fail_calls _ _ xs bad h).mono ?_; rintro e w1 ⟨rfl, hc, hg⟩) | (go_at_call 25; refine (err_calls _ _ xs true hc E hE).mono ?_; rintro e w2 ⟨rfl, hb2⟩))
    go_ret
    exact ⟨rfl, hc.below hb2, grown_trans hg (grown_of_below hb2 _)⟩
  · have hbt : b = bad := by rw [hb.out, decide_eq_false hx]; simp
    subst hbt
    have hx0 : decide (0 < xs.length) = false := decide_eq_false hx
    go_enter Tryd.func27, Tryd.ntmps27
    go_wp2_with (first | (go_at_call 24; refine (left_calls _ _ xs b h).mono ?_; rintro e w1 ⟨rfl, rfl⟩) | (go_at_call 25; refine (err_calls _ _ xs b h E hE).mono ?_; rintro e w2 ⟨rfl, hb2⟩))
    go_ret
    exact ⟨rfl, h.below hb2, grown_of_below hb2 _⟩
theorem own_kb {w w1 : World} {e : TypeId} {A : Option Addr} {n c : Nat} {xs : List UInt8} (ho : w1.ownsRow w.heap.size e 1 (.slice A n c) n (bs xs)) (hb : Below w.heap.size w w1) : ∃ kb, w.heap.size ≤ kb ∧ kb ≤ w1.heap.size ∧ (xs ≠ [] → ∃ o, A = some ⟨kb, o, none⟩) := by
  obtain ⟨hl, h2⟩ := ho
  rcases h2 with ⟨h3, h4⟩ | ⟨g, cap, cur, h3, h4, h5, _⟩
  · subst h4
    exact ⟨w1.heap.size, hb.size, Nat.le_refl _, fun hx => absurd (List.eq_nil_of_length_eq_zero (by rw [bs_length] at hl; omega)) hx⟩
  · simp only [Value.slice.injEq] at h3
    obtain ⟨rfl, _, _⟩ := h3
    exact ⟨g, h4, Nat.le_of_lt (Array.getElem?_eq_some_iff.1 h5).1, fun _ => ⟨0, rfl⟩⟩
theorem from_calls (v : Value) (xs : List UInt8) (w : World) (hv : RV w v xs.length 1 (bs xs)) (hl : xs.length ≤ 140737488355328) :
    Calls Tryd.prog 22 #[v] w fun e w' => (∃ p kb, e = .returned (.pointer (some ⟨p, 0, none⟩)) ∧ w.heap.size ≤ p ∧ p < w'.heap.size ∧ w.heap.size ≤ kb ∧ kb ≤ p ∧ CutAt 70 w' p kb xs false) ∧ Below w.heap.size w w' := by
  go_enter Tryd.func22, Tryd.ntmps22
  go_wp2_with (first | (go_at_call 42; refine (clone_bytes v xs _ hv hl).mono ?_; rintro e w1 ⟨v1, rfl, ho, hb⟩; obtain ⟨A, c, rfl⟩ := (RV_own ho).slice))
  go_ret
  obtain ⟨kb, hk1, hk2, hk3⟩ := own_kb ho hb
  exact ⟨⟨_, kb, rfl, hb.size, by simp, hk1, hk2, A, c, heap_alloc_new w1 _, (RV_own ho).alloc _, hk3⟩, hb.alloc hb.size _⟩
end Go.Proofs.YtpgcepfecmkkaaaDoor
