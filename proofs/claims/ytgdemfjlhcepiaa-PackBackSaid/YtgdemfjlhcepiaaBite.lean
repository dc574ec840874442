/-
  A call on a Cut, and the same on the document's.
-/
import Derived.Test.YtgdemfjlhcepiaaRefH
import Derived.Test.YtgdemfjlhcepiaaPackD
import Derived.Test.YtgdemfjlhcepiaaQ
import Derived.Deep.DeepCutAuto
import Derived.Deep.CutBlock
set_option linter.unusedVariables false
set_option linter.unusedSimpArgs false
namespace Go.Proofs.Ytgdemfjlhcepiaa
open Go.RowKit
attribute [local go_sem] eq_bytes_nil
variable {kb : Nat}
def kindOf (K : Int) : Nat := (((K.tmod 6) + 6).tmod 6).toNat
theorem kind_facts (K : Int) : -5 ≤ K.tmod 6 ∧ K.tmod 6 ≤ 5 ∧ ((K.tmod 6) + 6).tmod 6 = (kindOf K : Int) ∧ kindOf K < 6 := by
  have h1 : K.tmod 6 < 6 ∧ -6 < K.tmod 6 := ⟨Int.tmod_lt_of_pos _ (by decide), by have := Int.lt_tmod_of_pos K (show (0 : Int) < 6 by decide); omega⟩
  have h2 := Int.tmod_nonneg 6 (show 0 ≤ K.tmod 6 + 6 by omega)
  have h3 : (K.tmod 6 + 6).tmod 6 < 6 := Int.tmod_lt_of_pos _ (by decide)
  refine ⟨by omega, by omega, ?_, ?_⟩ <;> unfold kindOf <;> omega
theorem kind_calls (K n m : Int) (w : World) (hK : -9223372036854775808 ≤ K) (hK2 : K ≤ 9223372036854775807) :
    Calls Try.prog 36 #[.agg #[.int .i64 K, .int .u64 n, .int .i64 m]] w fun e w' => e = .returned (.int .i64 (kindOf K : Int)) ∧ Below w.heap.size w w' := by
  obtain ⟨h1, h2, h3, h4⟩ := kind_facts K
  go_enter Try.func36, Try.ntmps36
  go_wp2_with fail
  go_ret
  exact ⟨rfl, (Below.refl _ _).alloc (Nat.le_refl _) _⟩
def biteS (k N : Nat) (M : Int) (xs : List UInt8) (bad : Bool) : Nat × ByteArray × List UInt8 × Bool :=
  match k with
  | 0 => let r := numS N xs bad; (r.1, ⟨#[]⟩, r.2.1, r.2.2)
  | 1 => let r := blobR M xs bad; (0, st r.1, r.2.1, r.2.2)
  | 2 => let r := blobR M xs bad; (0, st r.1, r.2.1, r.2.2)
  | 3 => let r := sumR xs bad; (0, st r.1, r.2.1, r.2.2)
  | 4 => (0, ⟨#[]⟩, xs, true)
  | _ => let b := bad || decide (0 < xs.length); (if b then 2 else 0, ⟨#[]⟩, xs, b)
end Go.Proofs.Ytgdemfjlhcepiaa
