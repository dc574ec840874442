/-
  A region that draws its order, whose operations read and whose callees make memory at most, and each yields one value: one walk serves every order.
-/
import Derived.Test.YtpgcepfecmkkaaaDoorK
import Derived.Deep.QuietTactic
import Derived.BigQuiet
set_option linter.unusedVariables false
namespace Go.Proofs.YtpgcepfecmkkaaaDoor
open Go.RowKit

/-- The worlds that are as w was, below its end. -/
def BWt (w : World) : Type := { w' : World // Below w.heap.size w w' }
def BWt.w {w : World} (i : BWt w) : World := i.1
theorem BWt.below {w : World} (i : BWt w) : Below w.heap.size w i.w := i.2
instance (w : World) : Nonempty (BWt w) := ⟨⟨w, Below.refl _ _⟩⟩
theorem BWt.cell {w : World} (i : BWt w) (b o : Nat) (h : b < w.heap.size) : i.w.cell? ⟨b, o, none⟩ = w.cell? ⟨b, o, none⟩ := i.below.cell (p := ⟨b, o, none⟩) h
theorem wp_region_bw {P : Program} {id : Nat} {Q : Exit → Act → World → Prop} {a : Act} {w : World} {l : List Oper} (hm : P.follows .mixedOrders = true) (hB : Region.lexB .any l.toArray = true)
    (h : wpQuiet P l.toArray (fun w' => ∃ i : BWt w, w' = i.w) (fun a' => ∀ w', (∃ i : BWt w, w' = i.w) → Q .normal a' w') l a) : (Code.region id l.toArray true).wp P Q a w :=
  wp_region_quiet (C := fun w' => ∃ i : BWt w, w' = i.w) hm hB ⟨⟨_, (Below.refl _ _).drew⟩, rfl⟩ (by simpa using h)
theorem bw_of {P : Program} {f : FuncId} {args : Array Value} {w : World} {i : BWt w} {v : Value} (h : Calls P f args i.w fun e w' => e = .returned v ∧ Below i.w.heap.size i.w w') :
    Calls P f args i.w fun e w'' => e = .returned v ∧ ∃ j : BWt w, w'' = j.w :=
  h.mono fun e w' ⟨he, hb⟩ => ⟨he, ⟨w', below_size i.below hb⟩, rfl⟩
theorem bw_same {P : Program} {f : FuncId} {args : Array Value} {w : World} {i : BWt w} {v : Value} (h : Calls P f args i.w fun e w' => e = .returned v ∧ i.w = w') :
    Calls P f args i.w fun e w'' => e = .returned v ∧ ∃ j : BWt w, w'' = j.w :=
  h.mono fun e w' ⟨he, hb⟩ => ⟨he, i, hb.symm⟩
end Go.Proofs.YtpgcepfecmkkaaaDoor
