import Derived.Test.YtpgcepfecmkkaaaDoorPackC
import Derived.Deep.RegionLaw
import Derived.Laws.CopyOwn
set_option linter.unusedVariables false
set_option linter.unusedSimpArgs false
namespace Go.Proofs.YtpgcepfecmkkaaaDoor
open Go.RowKit
attribute [local go_sem] eq_bytes_nil
variable {kb : Nat}
theorem off_yes (t : TypeId) (w : World) (p : Nat) (xs : List UInt8) (h : CutAt t w p kb xs false) (n : Nat) (hn : 0 < n) (hl : n ≤ xs.length) :
    Calls Tryd.prog 56 #[.pointer (some ⟨p, 0, none⟩), .int .i64 (Int.ofNat n), .bool true] w fun e w' => ∃ b o, e = .returned (.slice (some ⟨b, o, none⟩) n n) ∧ w.grownBy w' (some p) ∧ RV w' (.slice (some ⟨b, o, none⟩) n n) n 1 (bs (xs.take n)) ∧ CutAt t w' p kb (xs.drop n) false :=
  (off_calls t w p xs false h n true (fun _ => hn)).mono fun e w' hh => by
    obtain ⟨v, rfl, hg, hu⟩ := hh
    rcases hu with ⟨hf, _⟩ | ⟨_, _, _, ⟨b, o, rfl⟩, hr, hc⟩
    · exact absurd hf (by simp; omega)
    · exact ⟨b, o, rfl, hg, hr, hc⟩
theorem off_no (t : TypeId) (w : World) (p : Nat) (xs : List UInt8) (bad : Bool) (h : CutAt t w p kb xs bad) (n : Nat) (hn : 0 < n) (hl : bad = true ∨ xs.length < n) :
    Calls Tryd.prog 56 #[.pointer (some ⟨p, 0, none⟩), .int .i64 (Int.ofNat n), .bool true] w fun e w' => e = .returned (.slice none 0 0) ∧ w.grownBy w' (some p) ∧ CutAt t w' p kb xs true :=
  (off_calls t w p xs bad h n true (fun _ => hn)).mono fun e w' hh => by
    obtain ⟨v, rfl, hg, hu⟩ := hh
    rcases hu with ⟨_, rfl, hc⟩ | ⟨rfl, _, h1, _⟩
    · exact ⟨rfl, hg, hc⟩
    · exact absurd hl (by simp; omega)
/-- A sum that is cut off. -/
def sumR (xs : List UInt8) (bad : Bool) : List UInt8 × List UInt8 × Bool :=
  if bad = false ∧ 32 ≤ xs.length then (xs.take 32, xs.drop 32, false) else (List.replicate 32 0, xs, true)

theorem csum_block {w W w2 : World} {v : Value} {xs : List UInt8} {bad : Bool} (h : CutV w v kb xs bad) {o : Obj} (hs : Hid (W.heap.size = w.heap.size + 1)) (hg : Hid (W.heap[w.heap.size]? = some o)) (hgv : W.drew.grownBy w2 (cutBlk v)) : Hid (w2.heap[w.heap.size]? = some o) :=
  (hgv.block w.heap.size (by have := hs.out; show _ < W.heap.size; omega) (fun e => by have := h.lt _ e.symm; omega)).trans hg.out
theorem rv_cells {w : World} {b o n c : Nat} {xs : List Value} (h : RV w (.slice (some ⟨b, o, none⟩) n c) n 1 xs) (hn : 0 < n) (j : Nat) (u : Value) (hj : xs[j]? = some u) : w.cell? ((⟨b, o, none⟩ : Addr).add j) = some u := by
  rcases h.parts (by decide) with ⟨h0, _⟩ | ⟨_, b', o', c', e, _, hc⟩
  · omega
  · simp only [Value.slice.injEq, Option.some.injEq, Addr.mk.injEq, and_true, true_and] at e
    obtain ⟨⟨rfl, rfl⟩, rfl⟩ := e
    rw [add_plain]; exact hc j u hj
theorem sum_splice {ZA : Array Value} {cs : List Value} (hz : Hid (ZA = (bs (List.replicate 32 0)).toArray)) (hl : Hid (cs.length = 32)) : (ZA.toList.take 0 ++ cs ++ ZA.toList.drop (0 + cs.length)).toArray = cs.toArray := by
  rw [hz.out, hl.out]
  have : (bs (List.replicate 32 (0 : UInt8))).toArray.toList.drop (0 + 32) = [] := by rfl
  rw [this]; simp
end Go.Proofs.YtpgcepfecmkkaaaDoor
