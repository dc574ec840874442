/-
  The chapter's examples stand.
-/
import Derived.Test.YtpgcepfecmkkaaaDoorPackD
set_option linter.unusedVariables false
set_option linter.unusedSimpArgs false
namespace Go.Proofs.YtpgcepfecmkkaaaDoor
open Go.RowKit
attribute [local go_sem] eq_bytes_nil
variable {kb : Nat}

theorem CutAt.toV {w : World} {p : Nat} {xs : List UInt8} {bad : Bool} (h : CutAt 70 w p kb xs bad) : CutV w (.pointer (some ⟨p, 0, none⟩)) kb xs bad := .inr ⟨p, rfl, h⟩
theorem CutV.past {w w' : World} {p q : Nat} {xs : List UInt8} {bad : Bool} (h : CutV w (.pointer (some ⟨p, 0, none⟩)) kb xs bad) (hg : w.grownBy w' (cutBlk (.pointer (some ⟨q, 0, none⟩)))) (h1 : q < kb) (h2 : kb ≤ p) : CutV w' (.pointer (some ⟨p, 0, none⟩)) kb xs bad :=
  h.other hg (.inr fun e => by simp [cutBlk] at e; omega) (fun _ e => by simp [cutBlk] at e; omega)
theorem below_alloc {w w' : World} {o : Obj} (h : Below (w.alloc o).heap.size (w.alloc o) w') : Below w.heap.size w w' ∧ w.heap.size + 1 ≤ w'.heap.size :=
  ⟨((Below.refl _ _).alloc (Nat.le_refl _) o).trans (h.mono (by simp)), by have := h.size; simpa using this⟩
theorem encNs_ex : encNs [0, 1, 255, 256] = [0, 1, 1, 1, 255, 2, 1, 0] := by decide
theorem encTs_ex : encTs [⟨#[97, 98]⟩] = [1, 2, 97, 98] := by decide

end Go.Proofs.YtpgcepfecmkkaaaDoor
