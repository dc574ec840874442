/-
  clear(b) where b is new memory.
-/
import Derived.Test.YtgdemfjlhcepiaaK
import Derived.Lib.SliceRun
import Derived.Lib.EndianMore
import Derived.Below
set_option linter.unusedVariables false
set_option linter.unusedSimpArgs false
namespace Go.Proofs.Ytgdemfjlhcepiaa
open Go.RowKit
theorem grown_setCells (g : Nat) : ∀ (vs : List Value) (o : Nat) (w : World), w.grownBy (w.setCells g o vs) (some g)
  | [], _, w => ⟨rfl, rfl, rfl, Nat.le_refl _, fun _ _ _ => rfl⟩
  | v :: r, o, w => grown_trans (grown_setCell w g o v) (grown_setCells g r (o + 1) _)
theorem clear_own {P : Program} {w : World} {base : Nat} {t e : TypeId} {n : Nat} {A : Option Addr} {c : Nat} {xs : List UInt8} (ht : P.underlying t = some (.slice e)) (hv : ∀ w, (zeroValue e).run P w = .ok (.int .u8 0) w) (h : w.ownsRow base e 1 (.slice A n c) n (bs xs)) :
    ∃ w', (∀ ty, (Builtin.clear_ #[t] ty #[.slice A n c]).run P w = .ok (.tuple #[]) w') ∧ Below base w w' ∧ w.grownBy w' (Value.slice A n c).ownBlock := by
  obtain ⟨hl, h2⟩ := h
  rw [bs_length] at hl
  rcases h2 with ⟨h3, h4⟩ | ⟨g, cap, cur, h3, h4, h5, h6, h7, h8, h9⟩
  · simp only [Value.slice.injEq] at h3
    obtain ⟨rfl, rfl, rfl⟩ := h3
    exact ⟨w, fun ty => by simp [Builtin.clear_, run_underlying ht], Below.refl _ _, ⟨rfl, rfl, rfl, Nat.le_refl _, fun _ _ _ => rfl⟩⟩
  · simp only [Value.slice.injEq, true_and] at h3
    obtain ⟨rfl, rfl⟩ := h3
    by_cases hn : 0 < n
    · refine ⟨_, fun ty => Lib.run_clear_slice w t e ty (.int .u8 0) ht hv rfl rfl g 0 n c hn (fun j hj => ?_) (fun j hj => frozen_of_row w g _ cur e h5), ?_, ?_⟩
      · rw [cell_of_row w g _ cur e _ h5, Array.getElem?_eq_getElem (by omega)]; rfl
      · exact Lib.below_setCells_w h4 _ _ _
      · exact grown_setCells g _ _ _
    · obtain rfl : n = 0 := by omega
      exact ⟨w, fun ty => by simp [Builtin.clear_, run_underlying ht], Below.refl _ _, ⟨rfl, rfl, rfl, Nat.le_refl _, fun _ _ _ => rfl⟩⟩
end Go.Proofs.Ytgdemfjlhcepiaa
