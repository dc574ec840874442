/-
  What PackCuts and PackNobody share: the calls as an argument, and two Cuts beside one another.
-/
import Derived.Test.YtgdemfjlhcepiaaMeant
import Derived.Test.YtgdemfjlhcepiaaO
set_option linter.unusedVariables false
set_option linter.unusedSimpArgs false
namespace Go.Proofs.Ytgdemfjlhcepiaa
open Go.RowKit
variable {kb : Nat}
theorem CutAt.besides {t t' : TypeId} {w w' : World} {p q kb kq : Nat} {xs ys : List UInt8} {bad b : Bool} (h : CutAt t w p kb xs bad) (hq : CutAt t' w q kq ys b) (hg : w.grownBy w' (some q)) (hne : p ≠ q) : CutAt t w' p kb xs bad := by
  obtain ⟨A, c, h1, h2, h3⟩ := h
  exact ⟨A, c, by rw [hg.block p (Array.getElem?_eq_some_iff.1 h1).1 (fun e => hne (Option.some.inj e))]; exact h1, hq.change hg h2 (bs_plain xs), h3⟩
theorem CutV.besides {t' : TypeId} {w w' : World} {v : Value} {q kq : Nat} {xs ys : List UInt8} {bad b : Bool} (h : CutV w v kb xs bad) (hq : CutAt t' w q kq ys b) (hg : w.grownBy w' (some q)) (hne : cutBlk v ≠ some q) : CutV w' v kb xs bad := by
  rcases h with h | ⟨p, rfl, h⟩
  · exact .inl h
  · exact .inr ⟨p, rfl, h.besides hq hg (fun e => hne (by rw [e]; rfl))⟩
theorem numS_len {n : Nat} {xs r : List UInt8} {bad c : Bool} {a : Nat} (h : numS n xs bad = (a, r, c)) : r.length ≤ xs.length := by
  unfold numS at h
  split at h
  · split at h <;> simp only [Prod.mk.injEq] at h <;> rw [← h.2.1] <;> simp
  · simp only [Prod.mk.injEq] at h; rw [← h.2.1]; exact Nat.le_refl _
theorem blobR_len {n : Int} {xs D r : List UInt8} {bad c : Bool} (h : blobR n xs bad = (D, r, c)) : r.length ≤ xs.length := by
  unfold blobR at h
  split at h <;> simp only [Prod.mk.injEq] at h <;> rw [← h.2.1] <;> simp
theorem sumR_len {xs D r : List UInt8} {bad c : Bool} (h : sumR xs bad = (D, r, c)) : r.length ≤ xs.length := by
  unfold sumR at h
  split at h <;> simp only [Prod.mk.injEq] at h <;> rw [← h.2.1] <;> simp
theorem bite_len {k n : Nat} {m : Int} {xs xs' : List UInt8} {bad bad' : Bool} {U : Nat} {S : ByteArray} (h : Hid (biteS k n m xs bad = (U, S, xs', bad'))) : xs'.length ≤ xs.length := by
  have h := h.out
  unfold biteS at h
  split at h <;> simp only [Prod.mk.injEq] at h <;> rw [← h.2.2.1]
  · exact numS_len (n := n) (bad := bad) rfl
  · exact blobR_len (n := m) (bad := bad) rfl
  · exact blobR_len (n := m) (bad := bad) rfl
  · exact sumR_len (bad := bad) rfl
  all_goals exact Nat.le_refl _
/-- A call as cells. -/
def biteV (x : Int × Nat × Int) : List Value := [.int .i64 x.1, .int .u64 (x.2.1 : Int), .int .i64 x.2.2]
def biteOk (x : Int × Nat × Int) : Prop := -9223372036854775808 ≤ x.1 ∧ x.1 ≤ 9223372036854775807 ∧ x.2.1 < 18446744073709551616 ∧ x.2.2 ≤ 9223372036854775807
theorem bite_at {w wr : World} {A : Option Addr} {c : Nat} {l : List (Int × Nat × Int)} (h : RV w (.slice A l.length c) l.length 3 (l.flatMap biteV)) (hb : Below w.heap.size w wr) (k : Nat) (hk : k < l.length) :
    ∃ b o, A = some ⟨b, o, none⟩ ∧ b < w.heap.size ∧ ∀ W, Below w.heap.size w W → ∀ j u, (biteV l[k])[j]? = some u → W.cell? ⟨b, o + k * 3 + j, none⟩ = some u := by
  obtain ⟨hl, A', c', e, h1, h2, h3⟩ := h
  simp only [Value.slice.injEq, true_and] at e
  obtain ⟨rfl, rfl⟩ := e
  obtain ⟨b, o, rfl, hc⟩ := h3 (by intro e; have := congrArg List.length e; rw [hl] at this; have h6 : ([] : List Value).length = 0 := rfl; omega)
  have key : ∀ j u, (biteV l[k])[j]? = some u → w.cell? ⟨b, o + k * 3 + j, none⟩ = some u := fun j u hj => by
    have := hc _ u (flat_at biteV 3 l (fun x _ => rfl) k hk j u hj)
    rw [← Nat.add_assoc] at this
    exact this
  have hlt : b < w.heap.size := World.block_lt_of_cell? w _ (key 0 _ rfl)
  exact ⟨b, o, rfl, hlt, fun W hW j u hj => (hW.cell (p := ⟨b, o + k * 3 + j, none⟩) hlt).trans (key j u hj)⟩
end Go.Proofs.Ytgdemfjlhcepiaa
