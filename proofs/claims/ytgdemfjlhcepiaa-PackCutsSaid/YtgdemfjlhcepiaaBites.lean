/-
  The argument []Bite, opened.
-/
import Derived.Test.YtgdemfjlhcepiaaPackN
import Derived.Deep.Strs
set_option linter.unusedVariables false
set_option linter.unusedSimpArgs false
namespace Go.Proofs.Ytgdemfjlhcepiaa
open Go.RowKit Go.ChangeShapes Go.WideShapes Go.ChangeAt
section
variable {H : Type} {enc : TypeId × Value → H} {w : World} {base : Nat} {sp : Nat → Bool} {hd : Bool}
theorem cells_bite : Try.prog.cellsOf 45 = 3 := by kernel_rfl
theorem cells_int : Try.prog.cellsOf 3 = 1 := by kernel_rfl
theorem cells_u64 : Try.prog.cellsOf 22 = 1 := by kernel_rfl
theorem one_bite {fuel : Nat} {cs : List Value} {x : DataW H × List MemPlace} (h : DataW.trod enc Try.prog w base sp hd fuel 45 cs = some x) : ∃ y : Int × Nat × Int, cs = biteV y ∧ biteOk y := by
  obtain ⟨y0, y1, y2, n, _, hl, h0, h1, h2⟩ := Deep.trod_struct3 Try.underlying45 h
  rw [cells_bite] at hl
  simp only [cells_int, cells_u64] at h0 h1 h2
  obtain ⟨a, e0, _, w0⟩ := DataW.trod_int Try.underlying3 h0
  obtain ⟨b, e1, _, w1⟩ := DataW.trod_int Try.underlying22 h1
  obtain ⟨c, e2, _, w2⟩ := DataW.trod_int Try.underlying3 h2
  match cs, hl with
  | [u0, u1, u2], _ =>
    simp at e0 e1 e2
    subst e0 e1 e2
    have v0 := i64_wf w0
    have v1 := u64_wf w1
    have v2 := i64_wf w2
    exact ⟨(a, b.toNat, c), by simp [biteV]; omega, v0.1, v0.2, by show b.toNat < _; omega, v2.2⟩
theorem arg_bites {r : Reach} {b0 : Nat} {v : Value} {d : DataW H} {ps : List MemPlace} (hval : Value.okWide Try.prog w r b0 38 v) (h : DataW.Trod enc Try.prog w base sp hd 38 v d ps) :
    ∃ l : List (Int × Nat × Int), RV w v l.length 3 (l.flatMap biteV) ∧ (∀ x ∈ l, biteOk x) ∧ Top d l.length := by
  obtain ⟨A, n, c, rfl⟩ := okWide_slice Try.underlying38 hval
  obtain ⟨fuel, hf⟩ := h
  rcases Deep.open_slice Try.underlying38 hf with ⟨h1, h2⟩ | ⟨a, len, cap, m, f2, D, Pl, h1, _, hl, hm, hmm, h2, hx⟩
  · have := cells_slice h1; simp at this; obtain ⟨rfl, rfl, rfl⟩ := this
    simp at h2
    exact ⟨[], RV_nil w 3, by simp, .inl ⟨h2.1, rfl⟩⟩
  · have := cells_slice h1; simp only [Value.slice.injEq] at this; obtain ⟨rfl, rfl, rfl⟩ := this
    have hlm : len ≤ m := by rw [hmm]; split <;> omega
    rw [cells_bite] at hx
    obtain ⟨f, hfx⟩ := Deep.choose_lt (n := len) (α := Int × Nat × Int) (p := fun i y => w.cells? base (a.add (i * 3)) 3 = some (biteV y) ∧ biteOk y) (fun i hi => by
      obtain ⟨cs', hc, ht⟩ := hx i (by omega)
      obtain ⟨y, rfl, hy⟩ := one_bite ht
      exact ⟨y, hc, hy⟩)
    have hll : ((List.range len).map f).length = len := by simp
    have h3 : ∀ (l : List Nat), ((l.map f).flatMap biteV).length = l.length * 3 := by
      intro l; induction l with
      | nil => rfl
      | cons x r ih => rw [List.map_cons, List.flatMap_cons, List.length_append, ih]; simp [biteV]; omega
    refine ⟨(List.range len).map f, ?_, ?_, .inr ⟨_, _, (congrArg Prod.fst h2), by simp⟩⟩
    · rw [hll]
      refine RV_of_cells hl hm (by rw [h3]; simp) fun i u hi => ?_
      have hi3 : i < len * 3 := by have := (List.getElem?_eq_some_iff.1 hi).1; rw [h3] at this; simpa using this
      have hq : i / 3 < len := by omega
      have hcs := (World.cells?_some (hfx (i / 3) hq).1).2.2 (i % 3) (Nat.mod_lt _ (by decide))
      have hadd : (a.add (i / 3 * 3)).add (i % 3) = a.add i := by
        have e3 : i / 3 * 3 + i % 3 = i := by omega
        have hadd2 : ∀ (a : Addr) (x y : Nat), (a.add x).add y = a.add (x + y) := by
          intro a x y
          unfold Addr.add
          by_cases hx0 : x = 0 <;> by_cases hy0 : y = 0 <;> simp [hx0, hy0, Nat.add_assoc]
        rw [hadd2, e3]
      rw [hadd] at hcs
      rw [hcs]
      have hiq : i = i / 3 * 3 + i % 3 := by omega
      have h3l : i % 3 < (biteV ((List.range len).map f)[i / 3]).length := by show _ < 3; exact Nat.mod_lt _ (by decide)
      have key := flat_at biteV 3 ((List.range len).map f) (fun x _ => rfl) (i / 3) (by rw [hll]; exact hq) (i % 3) _ (List.getElem?_eq_getElem h3l)
      rw [← hiq, hi] at key
      rw [key, ← List.getElem?_eq_getElem h3l]
      simp
    · intro x hx'
      obtain ⟨i, hi, rfl⟩ := List.mem_map.1 hx'
      exact (hfx i (List.mem_range.1 hi)).2
end
end Go.Proofs.Ytgdemfjlhcepiaa
