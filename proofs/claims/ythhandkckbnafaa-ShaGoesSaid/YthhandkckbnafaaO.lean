/-
  Arguments opened: a slice of bytes, of numbers, of texts, of slices of bytes.
-/
import Derived.Test.YthhandkckbnafaaK
import Derived.ProofKit
import Derived.OpenShut
import Derived.SizedLaws
import Derived.SliceStrings
import Derived.ChangeSlices
import Derived.Deep.Slices
import Derived.DataReads
set_option linter.unusedVariables false
set_option linter.unusedSimpArgs false
namespace Go.Proofs.Ythhandkckbnafaa
open Go.RowKit Go.ChangeShapes Go.WideShapes Go.ChangeAt

section
variable {H : Type} {enc : TypeId × Value → H} {P : Program} {w : World} {base : Nat} {sp : Nat → Bool} {hd : Bool}

theorem u8_wf {n : Int} (h : (Lit.int .u8 n).wf = true) : 0 ≤ n ∧ n < 256 := by
  simp [Lit.wf] at h
  have h0 : IntKind.u8.min = 0 := by decide
  have h1 : IntKind.u8.max = 255 := by decide
  omega
theorem u64_wf {n : Int} (h : (Lit.int .u64 n).wf = true) : 0 ≤ n ∧ n < 18446744073709551616 := by
  simp [Lit.wf] at h
  have h0 : IntKind.u64.min = 0 := by decide
  have h1 : IntKind.u64.max = 18446744073709551615 := by decide
  omega
theorem i64_wf {n : Int} (h : (Lit.int .i64 n).wf = true) : -9223372036854775808 ≤ n ∧ n ≤ 9223372036854775807 := by
  simp [Lit.wf] at h
  have h0 : IntKind.i64.min = -9223372036854775808 := by decide
  have h1 : IntKind.i64.max = 9223372036854775807 := by decide
  omega
/-- What a datum weighs at its top, where it is a slice. -/
def Top (d : DataW H) (n : Nat) : Prop := (d = .nil ∧ n = 0) ∨ ∃ el s, d = .slice el s ∧ el.length = n
theorem RV_of_cells {a : Addr} {len cap sz : Nat} {xs : List Value} (hl : len ≤ cap) (hm : cap ≤ maxLen) (hx : xs.length = len * sz) (hc : ∀ i u, xs[i]? = some u → w.cell? (a.add i) = some u) : RV w (.slice (some a) len cap) len sz xs := by
  refine ⟨hx, some a, cap, rfl, hl, Nat.le_trans hl hm, fun hne => ?_⟩
  obtain ⟨b, o, s⟩ := a
  have h0 : 0 < xs.length := List.length_pos_iff.2 hne
  have hs : s = none := by simpa [Addr.add] using World.cell?_spot (hc 0 xs[0] (List.getElem?_eq_getElem h0))
  subst hs
  exact ⟨b, o, rfl, fun j u hj => by rw [← add_plain]; exact hc j u hj⟩

theorem row_bytes {t e : TypeId} (ht : P.underlying t = some (.slice e)) (he : P.underlying e = some (.int .u8)) (hc : P.cellsOf e = 1) {fuel : Nat} {cs : List Value} {x : DataW H × List MemPlace} (h : DataW.trod enc P w base sp hd fuel t cs = some x) :
    ∃ (v : Value) (xs : List UInt8), cs = [v] ∧ RV w v xs.length 1 (bs xs) ∧ Top x.1 xs.length := by
  rcases open_ints ht he hc h with ⟨rfl, rfl⟩ | ⟨a, len, cap, zs, rfl, _, hl, hm, hz, rfl, hcell, hwf⟩
  · exact ⟨_, [], rfl, RV_nil w 1, .inl ⟨rfl, rfl⟩⟩
  · have hlen : len ≤ zs.length := by rw [hz]; split <;> omega
    have hxl : ((zs.take len).map fun n => UInt8.ofNat n.toNat).length = len := by simp; omega
    refine ⟨_, (zs.take len).map fun n => UInt8.ofNat n.toNat, rfl, ?_, .inr ⟨_, _, rfl, ?_⟩⟩
    · rw [hxl]
      refine RV_of_cells hl hm (by rw [bs_length, hxl]; simp) fun i u hi => ?_
      have hil : i < len := by have := (List.getElem?_eq_some_iff.1 hi).1; rw [bs_length, hxl] at this; exact this
      have hiz : i < zs.length := by omega
      rw [bs_at _ i (by rw [hxl]; exact hil)] at hi
      simp only [Option.some.injEq] at hi
      subst hi
      rw [hcell i hiz]
      have hw := hwf zs[i] (List.getElem_mem hiz)
      have hw2 : 0 ≤ zs[i] ∧ zs[i] < 256 := u8_wf hw
      simp only [List.getD, List.getElem?_eq_getElem hiz, Option.getD_some, List.getElem_map, List.getElem_take]
      congr 2
      have : (UInt8.ofNat zs[i].toNat).toNat = zs[i].toNat := by simp; omega
      rw [this]; omega
    · simp [lits, hxl]
theorem row_nums {k : IntKind} {t e : TypeId} (ht : P.underlying t = some (.slice e)) (he : P.underlying e = some (.int k)) (hc : P.cellsOf e = 1) {fuel : Nat} {cs : List Value} {x : DataW H × List MemPlace} (h : DataW.trod enc P w base sp hd fuel t cs = some x) :
    ∃ (v : Value) (xs : List Int), cs = [v] ∧ RV w v xs.length 1 (ns k xs) ∧ (∀ n ∈ xs, (Lit.int k n).wf = true) ∧ Top x.1 xs.length := by
  rcases open_ints ht he hc h with ⟨rfl, rfl⟩ | ⟨a, len, cap, zs, rfl, _, hl, hm, hz, rfl, hcell, hwf⟩
  · exact ⟨_, [], rfl, RV_nil w 1, by simp, .inl ⟨rfl, rfl⟩⟩
  · have hlen : len ≤ zs.length := by rw [hz]; split <;> omega
    have hxl : (zs.take len).length = len := by simp; omega
    refine ⟨_, zs.take len, rfl, ?_, fun n hn => hwf n (List.mem_of_mem_take hn), .inr ⟨_, _, rfl, ?_⟩⟩
    · rw [hxl]
      refine RV_of_cells hl hm (by rw [ns_length, hxl]; simp) fun i u hi => ?_
      have hil : i < len := by have := (List.getElem?_eq_some_iff.1 hi).1; rw [ns_length, hxl] at this; exact this
      have hiz : i < zs.length := by omega
      rw [ns_at _ _ i (by rw [hxl]; exact hil)] at hi
      simp only [Option.some.injEq] at hi
      subst hi
      rw [hcell i hiz]
      simp only [List.getD, List.getElem?_eq_getElem hiz, Option.getD_some, List.getElem_take]
    · simp [lits]
theorem row_texts {t e : TypeId} (ht : P.underlying t = some (.slice e)) (he : P.underlying e = some .string) (hc : P.cellsOf e = 1) {fuel : Nat} {cs : List Value} {x : DataW H × List MemPlace} (h : DataW.trod enc P w base sp hd fuel t cs = some x) :
    ∃ (v : Value) (xs : List ByteArray), cs = [v] ∧ RV w v xs.length 1 (ss xs) ∧ (∀ s ∈ xs, s.size ≤ maxLen) ∧ Top x.1 xs.length := by
  rcases open_strings ht he hc h with ⟨rfl, rfl⟩ | ⟨a, len, cap, zs, rfl, _, hl, hm, hz, rfl, hcell, hwf⟩
  · exact ⟨_, [], rfl, RV_nil w 1, by simp, .inl ⟨rfl, rfl⟩⟩
  · have hlen : len ≤ zs.length := by rw [hz]; split <;> omega
    have hxl : (zs.take len).length = len := by simp; omega
    refine ⟨_, zs.take len, rfl, ?_, fun n hn => hwf n (List.mem_of_mem_take hn), .inr ⟨_, _, rfl, ?_⟩⟩
    · rw [hxl]
      refine RV_of_cells hl hm (by simp [ss]; omega) fun i u hi => ?_
      have hil : i < len := by have := (List.getElem?_eq_some_iff.1 hi).1; simp [ss] at this; omega
      have hiz : i < zs.length := by omega
      rw [ss_at _ i (by rw [hxl]; exact hil)] at hi
      simp only [Option.some.injEq] at hi
      subst hi
      rw [hcell i hiz]
      simp only [List.getD, List.getElem?_eq_getElem hiz, Option.getD_some, List.getElem_take]
    · simp [strs]
      try omega
theorem rows_bytes {t e q : TypeId} (ht : P.underlying t = some (.slice e)) (hce : P.cellsOf e = 1) (he : P.underlying e = some (.slice q)) (hq : P.underlying q = some (.int .u8)) (hcq : P.cellsOf q = 1) {fuel : Nat} {cs : List Value} {x : DataW H × List MemPlace} (h : DataW.trod enc P w base sp hd fuel t cs = some x) :
    ∃ (v : Value) (xs : List (List UInt8)), cs = [v] ∧ RBs w v xs ∧ Top x.1 xs.length := by
  rcases Deep.open_slice1 ht hce h with ⟨rfl, rfl⟩ | ⟨a, len, cap, m, n, V, D, Pl, rfl, _, hl, hm, hmm, rfl, hx⟩
  · exact ⟨_, [], rfl, ⟨[], RV_nil w 1, by simp⟩, .inl ⟨rfl, rfl⟩⟩
  · have hlm : len ≤ m := by rw [hmm]; split <;> omega
    obtain ⟨f, hf⟩ := Deep.choose_lt (n := len) (α := List UInt8) (p := fun i xs => RV w (V i) xs.length 1 (bs xs)) (fun i hi => by
      obtain ⟨v, xs, hv, hr, _⟩ := row_bytes he hq hcq (hx i (by omega)).2
      simp only [List.cons.injEq, and_true] at hv
      subst hv
      exact ⟨xs, hr⟩)
    have hxl : ((List.range len).map f).length = len := by simp
    refine ⟨_, (List.range len).map f, rfl, ⟨(List.range len).map V, ?_, ?_⟩, .inr ⟨_, _, rfl, by simp⟩⟩
    · rw [hxl]
      refine RV_of_cells hl hm (by simp) fun i u hi => ?_
      have hil : i < len := by have := (List.getElem?_eq_some_iff.1 hi).1; simpa using this
      simp [hil] at hi
      subst hi
      exact (hx i (by omega)).1
    · intro i v x hv hx'
      have hil : i < len := by have := (List.getElem?_eq_some_iff.1 hv).1; simpa using this
      simp [hil] at hv hx'
      subst hv hx'
      exact hf i hil
theorem cells_slice {A : Option Addr} {n c : Nat} {v : Value} (h : (Value.slice A n c).cells.toList = [v]) : v = .slice A n c := by simp [Value.cells] at h; exact h.symm

variable {r : Reach} {b0 : Nat} {v : Value} {d : DataW H} {ps : List MemPlace}
theorem arg_bytes {t e : TypeId} (ht : P.underlying t = some (.slice e)) (he : P.underlying e = some (.int .u8)) (hc : P.cellsOf e = 1) (hval : Value.okWide P w r b0 t v) (h : DataW.Trod enc P w base sp hd t v d ps) :
    ∃ xs : List UInt8, RV w v xs.length 1 (bs xs) ∧ Top d xs.length := by
  obtain ⟨A, n, c, rfl⟩ := okWide_slice ht hval
  obtain ⟨fuel, hf⟩ := h
  obtain ⟨v, xs, hv, hr, hT⟩ := row_bytes ht he hc hf
  have := cells_slice hv; subst this
  exact ⟨xs, hr, hT⟩
theorem arg_nums {k : IntKind} {t e : TypeId} (ht : P.underlying t = some (.slice e)) (he : P.underlying e = some (.int k)) (hc : P.cellsOf e = 1) (hval : Value.okWide P w r b0 t v) (h : DataW.Trod enc P w base sp hd t v d ps) :
    ∃ xs : List Int, RV w v xs.length 1 (ns k xs) ∧ (∀ n ∈ xs, (Lit.int k n).wf = true) ∧ Top d xs.length := by
  obtain ⟨A, n, c, rfl⟩ := okWide_slice ht hval
  obtain ⟨fuel, hf⟩ := h
  obtain ⟨v, xs, hv, hr, hT⟩ := row_nums ht he hc hf
  have := cells_slice hv; subst this
  exact ⟨xs, hr, hT⟩
theorem arg_texts {t e : TypeId} (ht : P.underlying t = some (.slice e)) (he : P.underlying e = some .string) (hc : P.cellsOf e = 1) (hval : Value.okWide P w r b0 t v) (h : DataW.Trod enc P w base sp hd t v d ps) :
    ∃ xs : List ByteArray, RV w v xs.length 1 (ss xs) ∧ (∀ s ∈ xs, s.size ≤ maxLen) ∧ Top d xs.length := by
  obtain ⟨A, n, c, rfl⟩ := okWide_slice ht hval
  obtain ⟨fuel, hf⟩ := h
  obtain ⟨v, xs, hv, hr, hT⟩ := row_texts ht he hc hf
  have := cells_slice hv; subst this
  exact ⟨xs, hr, hT⟩
theorem arg_rows {t e q : TypeId} (ht : P.underlying t = some (.slice e)) (hce : P.cellsOf e = 1) (he : P.underlying e = some (.slice q)) (hq : P.underlying q = some (.int .u8)) (hcq : P.cellsOf q = 1) (hval : Value.okWide P w r b0 t v) (h : DataW.Trod enc P w base sp hd t v d ps) :
    ∃ xs : List (List UInt8), RBs w v xs ∧ Top d xs.length := by
  obtain ⟨A, n, c, rfl⟩ := okWide_slice ht hval
  obtain ⟨fuel, hf⟩ := h
  obtain ⟨v, xs, hv, hr, hT⟩ := rows_bytes ht hce he hq hcq hf
  have := cells_slice hv; subst this
  exact ⟨xs, hr, hT⟩
/-- How long an argument at j is at most. -/
theorem top_sized {ts : List TypeId} {ds : List (DataW H)} (h : (DataW.weightsEach P ts ds).all (· ≤ reachBytes) = true) {j : Nat} {t e : TypeId} {n : Nat} (ht : ts[j]? = some t) (hd : ds[j]? = some d) (hu : P.underlying t = some (.slice e)) (hT : Top d n) (hb : 0 < P.bytesOf e) : n ≤ 140737488355328 := by
  rcases hT with ⟨_, rfl⟩ | ⟨el, s, rfl, rfl⟩
  · omega
  · have h1 := sized_slice h ht hd hu
    have h2 : el.length + s.length ≤ (el.length + s.length) * P.bytesOf e := Nat.le_mul_of_pos_right _ hb
    have h3 := reachBytes_lt
    omega
end
end Go.Proofs.Ythhandkckbnafaa
