/-
  What was written is cut off as it was written.
-/
import Derived.Test.YtpgcepfecmkkaaaDoorCutS
import Derived.Test.YtpgcepfecmkkaaaDoorPackP
set_option linter.unusedVariables false
set_option linter.unusedSimpArgs false
namespace Go.Proofs.YtpgcepfecmkkaaaDoor
open Go.RowKit
theorem cut_num (x most : Nat) (hx : x < 18446744073709551616) (hm : x ≤ most) (r : List UInt8) : numS most (encN x ++ r) false = (x, r, false) := by
  have h := first_of_enc x hx r
  unfold numS peekS
  simp only [Bool.false_eq_true, if_false, h, if_pos hm]
  rw [← encN_length, List.drop_left]
theorem cut_blob (D r : List UInt8) (m : Int) (hD : D.length < 18446744073709551616) (hm : (D.length : Int) ≤ m) : blobR m (encB D ++ r) false = (D, r, false) := by
  have h1 : first (encB D ++ r) = some (D.length, nb D.length + 1) := by unfold encB; rw [List.append_assoc]; exact first_of_enc _ hD _
  have hl : (encB D).length = nb D.length + 1 + D.length := by unfold encB; rw [List.length_append, encN_length]
  have h2 : blobS m (encB D ++ r) false = some (D.length, nb D.length + 1) := by
    unfold blobS peekS
    simp only [Bool.false_eq_true, if_false, h1]
    rw [if_pos ⟨by omega, by omega, by rw [List.length_append, hl]; omega⟩]
  unfold blobR
  rw [h2]
  simp only
  have e : encB D ++ r = encN D.length ++ (D ++ r) := by unfold encB; rw [List.append_assoc]
  rw [e, ← encN_length, List.drop_left, List.take_left, ← List.drop_drop, List.drop_left, List.drop_left]
end Go.Proofs.YtpgcepfecmkkaaaDoor
