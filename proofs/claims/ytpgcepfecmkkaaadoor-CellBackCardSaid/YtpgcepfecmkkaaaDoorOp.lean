/-
  Arguments opened as kinds of the print: what is read at a type is of a kind.
-/
import Derived.Test.YtpgcepfecmkkaaaDoorWWords
import Derived.ProofKit
import Derived.OpenShut
import Derived.SizedLaws
import Derived.ChangeArms
import Derived.ChangeSlices
import Derived.Deep.Slices
import Derived.DataReads
set_option linter.unusedVariables false
set_option linter.unusedSimpArgs false
namespace Go.Proofs.YtpgcepfecmkkaaaDoorOp
open Go.RowKit Go.ChangeShapes Go.WideShapes Go.ChangeAt Go.Proofs.YtpgcepfecmkkaaaDoorW.PrintWords

/-- What is read at type t is of kind d, and meets ok. -/
def Opens {α : Type} (P : Program) (t : TypeId) (d : Kd α) (ok : α → Prop) : Prop :=
  P.cellsOf t = d.sz ∧ ∀ {H : Type} {enc : TypeId × Value → H} {w : World} {base : Nat} {sp : Nat → Bool} {hd : Bool} {fuel : Nat} {cs : List Value} {x : DataW H × List MemPlace},
    DataW.trod enc P w base sp hd fuel t cs = some x → ∃ y, d.K w y cs ∧ ok y
variable {P : Program} {t e : TypeId}
theorem Opens.int {k : IntKind} (ht : P.underlying t = some (.int k)) (hc : P.cellsOf t = 1) : Opens P t (Kd.int k) (fun n => (Lit.int k n).wf = true) :=
  ⟨hc, fun h => by obtain ⟨n, rfl, _, hw⟩ := DataW.trod_int ht h; exact ⟨n, rfl, hw⟩⟩
theorem Opens.string (ht : P.underlying t = some .string) (hc : P.cellsOf t = 1) : Opens P t Kd.string (fun s => s.size ≤ maxLen) :=
  ⟨hc, fun h => by obtain ⟨n, rfl, _, hw⟩ := DataW.trod_string ht h; exact ⟨n, rfl, hw⟩⟩
theorem Opens.bool (ht : P.underlying t = some .bool) (hc : P.cellsOf t = 1) : Opens P t Kd.bool (fun _ => True) :=
  ⟨hc, fun h => by obtain ⟨n, rfl, _⟩ := DataW.trod_bool ht h; exact ⟨n, rfl, trivial⟩⟩
theorem Opens.slice {α : Type} [Inhabited α] {d : Kd α} {ok : α → Prop} (ht : P.underlying t = some (.slice e)) (hc : P.cellsOf t = 1) (ho : Opens P e d ok) : Opens P t (Kd.slice e d) (fun xs => ∀ x ∈ xs, ok x) := by
  refine ⟨hc, fun {H enc w base sp hd fuel cs x} h => ?_⟩
  rcases Deep.open_slice ht h with ⟨rfl, _⟩ | ⟨a, len, cap, m, n, D, Pl, rfl, hb, hl, hm, hmm, _, hx⟩
  · exact ⟨[], ⟨none, 0, rfl, Nat.le_refl _, rfl, by simp, fun h0 => absurd h0 (by simp)⟩, by simp⟩
  · have hlm : len ≤ m := by rw [hmm]; split <;> omega
    rw [ho.1] at hx
    obtain ⟨f, hf⟩ := Deep.choose_lt (n := len) (α := α) (p := fun i y => (∃ c, w.cells? base (a.add (i * d.sz)) d.sz = some c ∧ d.K w y c) ∧ ok y) (fun i hi => by
      obtain ⟨c, hcs, hr⟩ := hx i (by omega)
      obtain ⟨y, hk, hy⟩ := ho.2 hr
      exact ⟨y, ⟨c, hcs, hk⟩, hy⟩)
    have hxl : ((List.range len).map f).length = len := by simp
    refine ⟨(List.range len).map f, ⟨some a, cap, by rw [hxl], by rw [hxl]; exact hl, ?_⟩, ?_⟩
    · refine ⟨rfl, by rw [hxl]; exact Nat.le_trans hl (Nat.le_trans hm (by decide)), fun _ => ⟨a, rfl, fun j p hj => ?_⟩⟩
      have hjl : j < len := by have := (List.getElem?_eq_some_iff.1 hj).1; rw [hxl] at this; exact this
      simp [hjl] at hj
      subst hj
      obtain ⟨⟨c, hcs, hk⟩, _⟩ := hf j hjl
      obtain ⟨_, hlen, hcell⟩ := World.cells?_some hcs
      refine ⟨c, hlen, hk, fun i u hu => ?_⟩
      have hi : i < d.sz := by have := (List.getElem?_eq_some_iff.1 hu).1; omega
      rw [← Deep.add_add, hcell i hi, hu]
    · intro x hx'
      obtain ⟨i, hi, rfl⟩ := List.mem_map.1 hx'
      exact (hf i (List.mem_range.1 hi)).2

/-- .. of fields in line, from the cell 'off' on. -/
def OpensF {α : Type} (P : Program) (fs : List Field) (off : Nat) (d : Kd α) (ok : α → Prop) : Prop :=
  ∀ {H : Type} {enc : TypeId × Value → H} {w : World} {base : Nat} {sp : Nat → Bool} {hd : Bool} {cs : List Value},
    (∀ (j : Nat) (f : Field), fs[j]? = some f → ∃ n x, DataW.trod enc P w base sp hd n f.type ((cs.drop f.offset).take (P.cellsOf f.type)) = some x) → ∃ y, d.K w y ((cs.drop off).take d.sz) ∧ ok y
theorem OpensF.one {α : Type} {d : Kd α} {ok : α → Prop} {f : Field} (ho : Opens P f.type d ok) : OpensF P [f] f.offset d ok := fun h => by
  obtain ⟨n, x, hx⟩ := h 0 f rfl
  obtain ⟨y, hk, hy⟩ := ho.2 hx
  rw [ho.1] at hk
  exact ⟨y, hk, hy⟩
theorem OpensF.cons {α β : Type} {d : Kd α} {ok : α → Prop} {d' : Kd β} {ok' : β → Prop} {f : Field} {fs : List Field} (ho : Opens P f.type d ok) (hs : OpensF P fs (f.offset + d.sz) d' ok') :
    OpensF P (f :: fs) f.offset (Kd.pair d d') (fun x => ok x.1 ∧ ok' x.2) := fun {H enc w base sp hd cs} h => by
  obtain ⟨n, x, hx⟩ := h 0 f rfl
  obtain ⟨y, hk, hy⟩ := ho.2 hx
  rw [ho.1] at hk
  obtain ⟨y', hk', hy'⟩ := hs (fun j g hj => h (j + 1) g (by simpa using hj))
  refine ⟨(y, y'), ⟨_, _, ?_, hk, hk'⟩, hy, hy'⟩
  show (cs.drop f.offset).take (d.sz + d'.sz) = _
  rw [List.take_add, List.drop_drop]
theorem Opens.struct {α β : Type} {d : Kd α} {ok : α → Prop} {fs : Array Field} (ht : P.underlying t = some (.struct fs)) (hc : P.cellsOf t = d.sz) (ho : OpensF P fs.toList 0 d ok) (f : β → α) (g : α → β) (hfg : ∀ x, f (g x) = x) :
    Opens P t (Kd.iso d f) (fun y => ok (f y)) := by
  refine ⟨hc, fun {H enc w base sp hd fuel cs x} h => ?_⟩
  obtain ⟨xs, n, _, rfl, hl, hlen, hf⟩ := DataW.trod_struct ht h
  obtain ⟨y, hk, hy⟩ := ho (enc := enc) (w := w) (base := base) (sp := sp) (hd := hd) (cs := cs) (fun j q hj => by
    have hj' : fs[j]? = some q := by simpa using hj
    have hjl : j < xs.length := by rw [hlen]; exact (Array.getElem?_eq_some_iff.1 hj').1
    have := hf j q hj'
    exact ⟨n, xs[j], by rw [this, List.getElem?_eq_getElem hjl]⟩)
  rw [List.drop_zero, List.take_of_length_le (by rw [hl, hc]; exact Nat.le_refl _)] at hk
  exact ⟨g y, by show d.K w (f (g y)) cs; rw [hfg]; exact hk, by show ok (f (g y)); rw [hfg]; exact hy⟩
theorem Opens.weaken {α : Type} {d : Kd α} {ok ok' : α → Prop} (h : Opens P t d ok) (hi : ∀ x, ok x → ok' x) : Opens P t d ok' := ⟨h.1, fun hh => by obtain ⟨y, hk, hy⟩ := h.2 hh; exact ⟨y, hk, hi _ hy⟩⟩

/-- A whole argument that is a slice. -/
theorem Opens.arg {α : Type} {d : Kd α} {ok : List α → Prop} {H : Type} {enc : TypeId × Value → H} {w : World} {base : Nat} {sp : Nat → Bool} {hd : Bool} {r : Reach} {b0 : Nat} {v : Value} {x : DataW H} {ps : List MemPlace}
    (ht : P.underlying t = some (.slice e)) (ho : Opens P t (Kd.slice e d) ok) (hval : Value.okWide P w r b0 t v) (h : DataW.Trod enc P w base sp hd t v x ps) :
    ∃ A c xs, v = .slice A xs.length c ∧ Kd.C d w A xs.length xs ∧ xs.length ≤ c ∧ ok xs := by
  obtain ⟨A, n, c, rfl⟩ := okWide_slice ht hval
  obtain ⟨fuel, hf⟩ := h
  obtain ⟨xs, ⟨A', c', he, hl, hC⟩, hok⟩ := ho.2 hf
  have : Value.slice A n c = .slice A' xs.length c' := by simpa [Value.cells] using he
  injection this with h1 h2 h3
  subst h1 h2 h3
  exact ⟨_, _, xs, rfl, hC, hl, hok⟩
end Go.Proofs.YtpgcepfecmkkaaaDoorOp
