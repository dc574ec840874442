/-
  A Cut whose bytes came in by a world: what the turned print says of it.
-/
import Derived.Test.YtpgcepfecmkkaaaDoorPackC
set_option linter.unusedVariables false
set_option linter.unusedSimpArgs false
namespace Go.Proofs.YtpgcepfecmkkaaaDoor
open Go.RowKit
/-- The bytes that are left, as they lie in the world by which they came in. -/
def CutR (w0 : World) (A : Option Addr) (f : ByteArray) (c : Nat) : Prop := RV w0 (.slice A (tb f).length c) (tb f).length 1 (bs (tb f))
theorem numS_sub {most : Nat} {xs : List UInt8} {bad : Bool} (h : (numS most xs bad).2.1 ≠ []) : xs ≠ [] := by
  rintro rfl
  refine h ?_
  cases bad <;> rfl
theorem blobR_sub {most : Int} {xs : List UInt8} {bad : Bool} (h : (blobR most xs bad).2.1 ≠ []) : xs ≠ [] := by
  rintro rfl
  refine h ?_
  cases bad <;> simp [blobR, blobS, peekS, first]
end Go.Proofs.YtpgcepfecmkkaaaDoor
