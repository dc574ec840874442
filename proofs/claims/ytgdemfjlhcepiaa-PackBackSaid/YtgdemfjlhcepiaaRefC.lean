/-
  The document's pack: what is cut off.
-/
import Derived.Test.YtgdemfjlhcepiaaRefF
import Derived.Test.YtgdemfjlhcepiaaPackE
set_option linter.unusedVariables false
set_option linter.unusedSimpArgs false
namespace Go.Proofs.Ytgdemfjlhcepiaa
open Go.RowKit
variable {kb : Nat}
theorem CutAt.lt {t : TypeId} {w : World} {p : Nat} {xs : List UInt8} {bad : Bool} (h : CutAt t w p kb xs bad) : p < w.heap.size := by
  obtain ⟨A, c, h1, _⟩ := h; exact (Array.getElem?_eq_some_iff.1 h1).1
theorem size_setCell (w : World) (a : Addr) (u : Value) : (w.setCell a u).heap.size = w.heap.size := by simp [World.setCell]
theorem own_made_set {base : Nat} {e : TypeId} (w : World) (p : Nat) (u : Value) (h : base ≤ w.heap.size) : ((w.setCell ⟨p, 0, none⟩ u).alloc (.cells #[] e)).ownsRow base e 1 (.slice (some ⟨w.heap.size, 0, none⟩) 0 0) 0 [] := by
  have := World.ownsRow_made (base := base) (e := e) (size := 1) (w.setCell ⟨p, 0, none⟩ u) #[] 0 (by rw [size_setCell]; exact h) (by decide) rfl
  rwa [size_setCell] at this
/-- A fault is noted. -/
theorem roff_no (w : World) (p : Nat) (xs : List UInt8) (bad : Bool) (h : CutAt 41 w p kb xs bad) (n : Nat) (right : Bool) (hf : bad = true ∨ right = false ∨ xs.length < n) :
    Calls Try.prog 44 #[.pointer (some ⟨p, 0, none⟩), .int .i64 (n : Int), .bool right] w fun e w' => e = .returned (.tuple #[.slice none 0 0, .bool false]) ∧ CutAt 41 w' p kb xs true ∧ w.grownBy w' (some p) := by
  obtain ⟨A, c, h0, h1, hr, hf0, hf1, hkb⟩ := h.cells
  have hfin := h.failed true
  have hg := grown_setCell w p 1 (.bool true)
  cases hb : bad with
  | true =>
    subst hb
    go_enter Try.func44, Try.ntmps44
    go_wp2
    go_ret2
    exact ⟨rfl, hfin, hg⟩
  | false =>
    subst hb
    cases hri : right with
    | false =>
      subst hri
      go_enter Try.func44, Try.ntmps44
      go_wp2
      go_ret2
      exact ⟨rfl, hfin, hg⟩
    | true =>
      subst hri
      have hl : xs.length < n := by rcases hf with h | h | h <;> first | exact h | cases h
      have hl0 : decide ((xs.length : Int) < (n : Int)) = true := decide_eq_true (by omega)
      go_enter Try.func44, Try.ntmps44
      go_wp2
      go_ret2
      exact ⟨rfl, hfin, hg⟩
theorem grown_below {a b c : World} {r : Option Nat} (h : a.grownBy b r) (k : Below a.heap.size b c) : a.grownBy c r :=
  ⟨k.os.trans h.os, k.tape.trans h.tape, k.output.trans h.output, Nat.le_trans h.size k.size, fun i hi hr => (k.block i hi).trans (h.block i hi hr)⟩
theorem roff_end {w w1 w3 : World} {p n m c1 : Nat} {xs : List UInt8} {A1 : Option Addr} {v3 : Value} {b0 : Value} {t : TypeId} (hblk : w.heap[p]? = some (.cells #[b0, .bool false] t (0, 0))) (hpl : p < w.heap.size) (hbz : Below w.heap.size w w1) (hblk1 : w1.heap[p]? = some (.cells #[b0, .bool false] t (0, 0)))
    (ho1 : w1.ownsRow w.heap.size 5 1 (.slice A1 m c1) m (bs (xs.drop n))) (hg2 : w.grownBy (w1.setCell ⟨p, 0, none⟩ (.slice A1 m c1)) (some p))
    (hb3 : Below w.heap.size ((w1.setCell ⟨p, 0, none⟩ (.slice A1 m c1)).alloc (.cells #[] 5)) w3) (hg3 : ((w1.setCell ⟨p, 0, none⟩ (.slice A1 m c1)).alloc (.cells #[] 5)).grownBy w3 (Value.slice (some ⟨w1.heap.size, 0, none⟩) 0 0).ownBlock)
    (hown3 : w3.ownsRow w.heap.size 5 1 v3 (0 + n) ([] ++ bs (xs.take n))) (hdl : (xs.drop n).length = m) :
    ∃ v kb', Ending.returned (.tuple #[v3, .bool true]) = .returned (.tuple #[v, .bool true]) ∧ w3.ownsRow w.heap.size 5 1 v n (bs (xs.take n)) ∧ CutAt t w3 p kb' (xs.drop n) false ∧ w.grownBy w3 (some p) ∧ w.heap.size ≤ kb' := by
  have hal : Below w.heap.size (w1.setCell ⟨p, 0, none⟩ (.slice A1 m c1)) ((w1.setCell ⟨p, 0, none⟩ (.slice A1 m c1)).alloc (.cells #[] 5)) := (Below.refl _ _).alloc hg2.size _
  have hne : ∀ k, (Value.slice A1 m c1).ownBlock = some k → w.heap.size ≤ k ∧ k < w1.heap.size := fun k hk => ho1.lt k hk
  have k1 : (w1.setCell ⟨p, 0, none⟩ (.slice A1 m c1)).ownsRow w.heap.size 5 1 (.slice A1 m c1) m (bs (xs.drop n)) := ho1.kept (grown_setCell w1 p 0 _) (by
    cases hv : (Value.slice A1 m c1).ownBlock with
    | none => exact .inl rfl
    | some k => exact .inr fun e => by have := hne k hv; simp at e; omega)
  have k3 := (k1.alloc (.cells #[] 5)).kept hg3 (by
    cases hv : (Value.slice A1 m c1).ownBlock with
    | none => exact .inl rfl
    | some k => exact .inr fun e => by have := hne k hv; simp [Value.ownBlock] at e; omega)
  obtain ⟨kb', hkl, _, hkb⟩ := own_kb ho1 hbz
  refine ⟨_, kb', rfl, own_len hown3 (Nat.zero_add _) (List.nil_append _), ⟨A1, c1, ?_, ?_, hkb⟩, grown_below hg2 (hal.trans hb3), hkl⟩
  · rw [hdl, hb3.block p hpl, hal.block p hpl, heap_setCell_same w1 p 0 _ t _ hblk1]; rfl
  · rw [hdl]; exact RV_own k3
set_option maxHeartbeats 1000000 in
theorem roff_ok (w : World) (p : Nat) (xs : List UInt8) (h : CutAt 41 w p kb xs false) (n : Nat) (hn0 : 0 < n) (hl : n ≤ xs.length) (hmx : xs.length ≤ 140737488355328) :
    Calls Try.prog 44 #[.pointer (some ⟨p, 0, none⟩), .int .i64 (n : Int), .bool true] w fun e w' => ∃ v kb', e = .returned (.tuple #[v, .bool true]) ∧ w'.ownsRow w.heap.size 5 1 v n (bs (xs.take n)) ∧ CutAt 41 w' p kb' (xs.drop n) false ∧ w.grownBy w' (some p) ∧ w.heap.size ≤ kb' := by
  obtain ⟨A, c, h0, h1, hr, hf0, hf1, hkb⟩ := h.cells
  obtain ⟨A', c', hblk, _, _⟩ := id h
  have hpl := h.lt
  have hl0 : decide ((xs.length : Int) < (n : Int)) = false := decide_eq_false (by omega)
  obtain ⟨_, A2, c2, e2, hc1, hc2, hcc⟩ := id hr
  simp only [Value.slice.injEq, true_and] at e2
  obtain ⟨rfl, rfl⟩ := e2
  obtain ⟨b, o, rfl, hcell⟩ := hcc (by intro e; have h5 := congrArg List.length e; rw [bs_length] at h5; have h6 : ([] : List Value).length = 0 := rfl; omega)
  have hmc : c ≤ 9223372036854775807 := by simpa only [maxLen] using hc2
  have hpre := RV_pre hr hl
  have hO := World.ownsRow_made (base := w.heap.size) (e := 5) (size := 1) w #[] 0 (Nat.le_refl _) (by decide) rfl
  have hdl : (xs.drop n).length = xs.length - n := by simp
  by_cases hcn : c = n
  · subst hcn
    have hln : xs.length = c := by omega
    have hdl0 : (xs.drop c).length = 0 := by omega
    have HDL := hid hdl0
    clear hdl hdl0
    have hsuf : RV w (.slice (some ⟨b, o, none⟩) 0 0) 0 1 (bs (xs.drop c)) := by
      have e1 : xs.drop c = [] := by rw [← hln]; simp
      rw [e1]
      exact RV_zero _ _ _ _ (Nat.zero_le _)
    have HLN := hid hln
    clear hcell hcc hln
    have hsa := hsuf.alloc (.cells #[] 5)
    go_enter Try.func44, Try.ntmps44
    go_wp2_with (first | (at_builtin; refine wpList_append_rv (.tmp 36) (.tmp 42) 23 w.heap.size 5 (.int .u8 0) 1 1 Try.underlying23 info_u8 hO hsa (bs_one _) (by omega) (by simp) rfl rfl rfl rfl rfl (by decide) (by decide) ?_; intro v1 w1 hown1 hb1 hg1; have ho1 := own_len hown1 (Nat.zero_add _) (List.nil_append _); obtain ⟨A1, c1, rfl⟩ := (RV_own ho1).slice; have hbz : Below w.heap.size w w1 := ((Below.refl _ _).alloc (Nat.le_refl _) _).trans hb1; have hblk1 := (hbz.block p hpl).trans hblk; have hc10 := (hbz.cell (p := ⟨p, 0, none⟩) hpl).trans h0; have hf10 := (hbz.frozen (p := ⟨p, 0, none⟩) hpl).trans hf0; have hg2 : w.grownBy (w1.setCell ⟨p, 0, none⟩ (.slice A1 0 c1)) (some p) := grown_trans (grown_of_below hbz _) (grown_setCell w1 p 0 _); have hpre2 := h.change hg2 hpre (bs_plain _); have hz2 := hg2.size; have hO2 := own_made_set (base := w.heap.size) (e := 5) w1 p (.slice A1 0 c1) hbz.size) | (at_builtin; refine wpList_append_rv (.tmp 46) (.tmp 47) 23 w.heap.size 5 (.int .u8 0) 1 1 Try.underlying23 info_u8 hO2 (hpre2.alloc _) (bs_one _) (by omega) (Nat.le_trans hz2 ((Below.refl _ _).alloc (Nat.le_refl _) _).size) rfl rfl rfl rfl rfl (by decide) (by decide) ?_; intro v3 w3 hown3 hb3 hg3))
    go_ret2
    exact roff_end hblk hpl hbz hblk1 ho1 hg2 hb3 hg3 hown3 HDL.out
  · have hsuf : RV w (.slice (some ⟨b, o + n, none⟩) (xs.length - n) (c - n)) (xs.length - n) 1 (bs (xs.drop n)) := by
      refine ⟨by rw [bs_length, hdl]; omega, _, _, rfl, by omega, by omega, fun hx => ⟨b, o + n, rfl, fun j u hj => ?_⟩⟩
      rw [Nat.add_assoc]
      exact hcell _ u (by rw [bs_drop] at hj; simpa using hj)
    clear hcell hcc
    have hsa := hsuf.alloc (.cells #[] 5)
    go_enter Try.func44, Try.ntmps44
    go_wp2_with (first | (at_builtin; refine wpList_append_rv (.tmp 36) (.tmp 42) 23 w.heap.size 5 (.int .u8 0) 1 1 Try.underlying23 info_u8 hO hsa (bs_one _) (by omega) (by simp) rfl rfl rfl rfl rfl (by decide) (by decide) ?_; intro v1 w1 hown1 hb1 hg1; have ho1 := own_len hown1 (Nat.zero_add _) (List.nil_append _); obtain ⟨A1, c1, rfl⟩ := (RV_own ho1).slice; have hbz : Below w.heap.size w w1 := ((Below.refl _ _).alloc (Nat.le_refl _) _).trans hb1; have hblk1 := (hbz.block p hpl).trans hblk; have hc10 := (hbz.cell (p := ⟨p, 0, none⟩) hpl).trans h0; have hf10 := (hbz.frozen (p := ⟨p, 0, none⟩) hpl).trans hf0; have hg2 : w.grownBy (w1.setCell ⟨p, 0, none⟩ (.slice A1 (xs.length - n) c1)) (some p) := grown_trans (grown_of_below hbz _) (grown_setCell w1 p 0 _); have hpre2 := h.change hg2 hpre (bs_plain _); have hz2 := hg2.size; have hO2 := own_made_set (base := w.heap.size) (e := 5) w1 p (.slice A1 (xs.length - n) c1) hbz.size) | (at_builtin; refine wpList_append_rv (.tmp 46) (.tmp 47) 23 w.heap.size 5 (.int .u8 0) 1 1 Try.underlying23 info_u8 hO2 (hpre2.alloc _) (bs_one _) (by omega) (Nat.le_trans hz2 ((Below.refl _ _).alloc (Nat.le_refl _) _).size) rfl rfl rfl rfl rfl (by decide) (by decide) ?_; intro v3 w3 hown3 hb3 hg3))
    go_ret2
    exact roff_end hblk hpl hbz hblk1 ho1 hg2 hb3 hg3 hown3 hdl
end Go.Proofs.Ytgdemfjlhcepiaa
