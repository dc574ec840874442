/-
  Arguments opened: arrays of bytes, rows of arrays; how long the rows of a row are.
-/
import Derived.Test.YtgdemfjlhcepiaaO
import Derived.Deep.Slices
set_option linter.unusedVariables false
set_option linter.unusedSimpArgs false
namespace Go.Proofs.Ytgdemfjlhcepiaa
open Go.RowKit Go.ChangeShapes Go.WideShapes Go.ChangeAt
section
variable {H : Type} {enc : TypeId × Value → H} {P : Program} {w : World} {base : Nat} {sp : Nat → Bool} {hd : Bool}
def byteOf (v : Value) : UInt8 := match v with | .int _ z => UInt8.ofNat z.toNat | _ => 0
theorem arr_bytes {n : Nat} {t e : TypeId} (ht : P.underlying t = some (.array n e)) (he : P.underlying e = some (.int .u8)) (hc : P.cellsOf e = 1) (hn : P.cellsOf t = n) {fuel : Nat} {cs : List Value} {x : DataW H × List MemPlace} (h : DataW.trod enc P w base sp hd fuel t cs = some x) :
    ∃ xs : List UInt8, xs.length = n ∧ cs = bs xs := by
  obtain ⟨ys, m, _, _, hl, hyl, hy⟩ := DataW.trod_array ht h
  rw [hc] at hy
  rw [hn] at hl
  have key : ∀ (i : Nat) (hi : i < cs.length), ∃ z : Int, cs[i] = .int .u8 z ∧ 0 ≤ z ∧ z < 256 := fun i hi => by
    have h1 := hy i (by omega)
    have hd : (cs.drop (i * 1)).take 1 = [cs[i]] := by rw [Nat.mul_one, List.drop_eq_getElem_cons hi]; rfl
    rw [hd, List.getElem?_eq_getElem (by omega)] at h1
    obtain ⟨z, e1, _, hw⟩ := DataW.trod_int he h1
    exact ⟨z, by simpa using e1, u8_wf hw⟩
  refine ⟨cs.map byteOf, by rw [List.length_map]; exact hl, ?_⟩
  apply List.ext_getElem
  · rw [bs_length, List.length_map]
  · intro i h1 h2
    obtain ⟨z, e1, hz⟩ := key i h1
    have h3 := bs_at (cs.map byteOf) i (by rw [List.length_map]; exact h1)
    rw [List.getElem?_eq_getElem h2] at h3
    rw [Option.some.inj h3, e1, List.getElem_map, e1]
    unfold byteOf
    congr 1
    simp
    omega
theorem arg_array {r : Reach} {b0 n : Nat} {t e : TypeId} {v : Value} {d : DataW H} {ps : List MemPlace} (ht : P.underlying t = some (.array n e)) (he : P.underlying e = some (.int .u8)) (hc : P.cellsOf e = 1) (hn : P.cellsOf t = n) (hn0 : n ≠ 1) (h : DataW.Trod enc P w base sp hd t v d ps) :
    ∃ xs : List UInt8, xs.length = n ∧ v.cells.toList = bs xs := by
  obtain ⟨fuel, hf⟩ := h
  exact arr_bytes ht he hc hn hf
theorem arg_sums {r : Reach} {b0 : Nat} {t a e : TypeId} {v : Value} {d : DataW H} {ps : List MemPlace} (ht : P.underlying t = some (.slice a)) (ha : P.underlying a = some (.array 32 e)) (he : P.underlying e = some (.int .u8)) (hc : P.cellsOf e = 1) (hn : P.cellsOf a = 32) (hval : Value.okWide P w r b0 t v) (h : DataW.Trod enc P w base sp hd t v d ps) :
    ∃ l : List (List UInt8), RV w v l.length 32 (l.flatMap bs) ∧ (∀ x ∈ l, x.length = 32) ∧ Top d l.length := by
  obtain ⟨A, n, c, rfl⟩ := okWide_slice ht hval
  obtain ⟨fuel, hf⟩ := h
  rcases Deep.open_slice ht hf with ⟨h1, h2⟩ | ⟨ad, len, cap, m, f2, D, Pl, h1, _, hl, hm, hmm, h2, hx⟩
  · have := cells_slice h1; simp at this; obtain ⟨rfl, rfl, rfl⟩ := this
    simp at h2
    exact ⟨[], RV_nil w 32, by simp, .inl ⟨h2.1, rfl⟩⟩
  · have := cells_slice h1; simp only [Value.slice.injEq] at this; obtain ⟨rfl, rfl, rfl⟩ := this
    have hlm : len ≤ m := by rw [hmm]; split <;> omega
    rw [hn] at hx
    obtain ⟨f, hfx⟩ := Deep.choose_lt (n := len) (α := List UInt8) (p := fun i y => w.cells? base (ad.add (i * 32)) 32 = some (bs y) ∧ y.length = 32) (fun i hi => by
      obtain ⟨cs', hc', ht'⟩ := hx i (by omega)
      obtain ⟨y, hy, rfl⟩ := arr_bytes ha he hc hn ht'
      exact ⟨y, hc', hy⟩)
    have hll : ((List.range len).map f).length = len := by simp
    have hall : ∀ x ∈ (List.range len).map f, x.length = 32 := by
      intro x hx'
      obtain ⟨i, hi, rfl⟩ := List.mem_map.1 hx'
      exact (hfx i (List.mem_range.1 hi)).2
    have hallb : ∀ x ∈ (List.range len).map f, (bs x).length = 32 := fun x hx' => by rw [bs_length]; exact hall x hx'
    have h3 : ∀ (l : List (List UInt8)), (∀ x ∈ l, (bs x).length = 32) → (l.flatMap bs).length = l.length * 32 := by
      intro l
      induction l with
      | nil => intro _; rfl
      | cons x r ih => intro hq; rw [List.flatMap_cons, List.length_append, ih (fun y hy => hq y (by simp [hy])), hq x (by simp), List.length_cons]; omega
    refine ⟨(List.range len).map f, ?_, hall, .inr ⟨_, _, (congrArg Prod.fst h2), by simp⟩⟩
    rw [hll]
    have hfl := h3 _ hallb
    rw [hll] at hfl
    refine RV_of_cells hl hm hfl fun i u hi => ?_
    have hi32 : i < len * 32 := by have := (List.getElem?_eq_some_iff.1 hi).1; omega
    have hq : i / 32 < len := by omega
    have hcs := (World.cells?_some (hfx (i / 32) hq).1).2.2 (i % 32) (Nat.mod_lt _ (by decide))
    have hadd : (ad.add (i / 32 * 32)).add (i % 32) = ad.add i := by
      have e3 : i / 32 * 32 + i % 32 = i := by omega
      have hadd2 : ∀ (a : Addr) (x y : Nat), (a.add x).add y = a.add (x + y) := by
        intro a x y
        unfold Addr.add
        by_cases hx0 : x = 0 <;> by_cases hy0 : y = 0 <;> simp [hx0, hy0, Nat.add_assoc]
      rw [hadd2, e3]
    rw [hadd] at hcs
    rw [hcs]
    have hiq : i = i / 32 * 32 + i % 32 := by omega
    have hfi : ((List.range len).map f)[i / 32]'(by rw [hll]; exact hq) = f (i / 32) := by simp
    have h3l : i % 32 < (bs (f (i / 32))).length := by rw [bs_length, (hfx (i / 32) hq).2]; exact Nat.mod_lt _ (by decide)
    have key := flat_at bs 32 ((List.range len).map f) hallb (i / 32) (by rw [hll]; exact hq) (i % 32) ((bs (f (i / 32)))[i % 32]) (by rw [hfi]; exact List.getElem?_eq_getElem h3l)
    rw [← hiq, hi] at key
    rw [key, List.getElem?_eq_getElem h3l]
/-- What is told of a row of rows: as long as each inner one. -/
def TopRows (d : DataW H) (l : List (List UInt8)) : Prop := (d = .nil ∧ l = []) ∨ ∃ el s, d = .slice el s ∧ el.length = l.length ∧ ∀ (i : Nat) (x : List UInt8), l[i]? = some x → ∃ y, el[i]? = some y ∧ Top y x.length
theorem TopRows.top {d : DataW H} {l : List (List UInt8)} (h : TopRows d l) : Top d l.length := by
  rcases h with ⟨rfl, rfl⟩ | ⟨el, s, rfl, h, _⟩
  · exact .inl ⟨rfl, rfl⟩
  · exact .inr ⟨el, s, rfl, h⟩
theorem rows_bytes2 {t e q : TypeId} (ht : P.underlying t = some (.slice e)) (hce : P.cellsOf e = 1) (he : P.underlying e = some (.slice q)) (hq : P.underlying q = some (.int .u8)) (hcq : P.cellsOf q = 1) {fuel : Nat} {cs : List Value} {x : DataW H × List MemPlace} (h : DataW.trod enc P w base sp hd fuel t cs = some x) :
    ∃ (v : Value) (xs : List (List UInt8)), cs = [v] ∧ RBs w v xs ∧ TopRows x.1 xs := by
  rcases Deep.open_slice1 ht hce h with ⟨rfl, rfl⟩ | ⟨a, len, cap, m, n, V, D, Pl, rfl, _, hl, hm, hmm, rfl, hx⟩
  · exact ⟨_, [], rfl, ⟨[], RV_nil w 1, by simp⟩, .inl ⟨rfl, rfl⟩⟩
  · have hlm : len ≤ m := by rw [hmm]; split <;> omega
    obtain ⟨f, hf⟩ := Deep.choose_lt (n := len) (α := List UInt8) (p := fun i xs => RV w (V i) xs.length 1 (bs xs) ∧ Top (D i) xs.length) (fun i hi => by
      obtain ⟨v, xs, hv, hr, hT⟩ := row_bytes he hq hcq (hx i (by omega)).2
      simp only [List.cons.injEq, and_true] at hv
      subst hv
      exact ⟨xs, hr, hT⟩)
    have hxl : ((List.range len).map f).length = len := by simp
    refine ⟨_, (List.range len).map f, rfl, ⟨(List.range len).map V, ?_, ?_⟩, .inr ⟨_, _, rfl, by simp, ?_⟩⟩
    · rw [hxl]
      refine RV_of_cells hl hm (by simp) fun i u hi => ?_
      have hil : i < len := by have := (List.getElem?_eq_some_iff.1 hi).1; simpa using this
      simp [hil] at hi
      subst hi
      exact (hx i (by omega)).1
    · intro i v x hv hx'
      have hil : i < len := by have := (List.getElem?_eq_some_iff.1 hv).1; simpa using this
      simp [hil] at hv hx'
      subst hv hx'
      exact (hf i hil).1
    · intro i x hx'
      have hil : i < len := by have := (List.getElem?_eq_some_iff.1 hx').1; simpa using this
      simp [hil] at hx'
      subst hx'
      exact ⟨D i, by simp [hil], (hf i hil).2⟩
theorem arg_rows2 {r : Reach} {b0 : Nat} {v : Value} {d : DataW H} {ps : List MemPlace} {t e q : TypeId} (ht : P.underlying t = some (.slice e)) (hce : P.cellsOf e = 1) (he : P.underlying e = some (.slice q)) (hq : P.underlying q = some (.int .u8)) (hcq : P.cellsOf q = 1) (hval : Value.okWide P w r b0 t v) (h : DataW.Trod enc P w base sp hd t v d ps) :
    ∃ xs : List (List UInt8), RBs w v xs ∧ TopRows d xs := by
  obtain ⟨A, n, c, rfl⟩ := okWide_slice ht hval
  obtain ⟨fuel, hf⟩ := h
  obtain ⟨v, xs, hv, hr, hT⟩ := rows_bytes2 ht hce he hq hcq hf
  have := cells_slice hv; subst this
  exact ⟨xs, hr, hT⟩
theorem mem_weightsAll {e : TypeId} : ∀ (l : List (DataW H)) (d : DataW H), d ∈ l → ∀ x ∈ d.weights P e, x ∈ DataW.weightsAll P e l := by
  intro l
  induction l with
  | nil => intro d hd; cases hd
  | cons y r ih =>
    intro d hd x hx
    rw [DataW.weightsAll]
    rcases List.mem_cons.1 hd with rfl | hd
    · exact List.mem_append_left _ hx
    · exact List.mem_append_right _ (ih d hd x hx)
theorem rows_sized {ts : List TypeId} {ds : List (DataW H)} (h : (DataW.weightsEach P ts ds).all (· ≤ reachBytes) = true) {j : Nat} {d : DataW H} {t e q : TypeId} {l : List (List UInt8)} (ht : ts[j]? = some t) (hd : ds[j]? = some d) (hu : P.underlying t = some (.slice e)) (he : P.underlying e = some (.slice q)) (hT : TopRows d l) (hb : 0 < P.bytesOf q) : ∀ x ∈ l, x.length ≤ 140737488355328 := by
  intro x hx
  rcases hT with ⟨_, rfl⟩ | ⟨el, s, rfl, _, hel⟩
  · cases hx
  · obtain ⟨i, hi⟩ := List.mem_iff_getElem?.1 hx
    obtain ⟨y, hy, hT⟩ := hel i x hi
    rcases hT with ⟨_, h0⟩ | ⟨e2, s2, rfl, h2⟩
    · omega
    · have hm := DataW.weights_mem_each ht hd ((e2.length + s2.length) * P.bytesOf q) (by
        rw [DataW.weights, hu]
        exact List.mem_cons_of_mem _ (List.mem_append_left _ (mem_weightsAll el _ (List.mem_of_getElem? hy) _ (by rw [DataW.weights, he]; exact List.mem_cons_self))))
      have h1 := List.all_eq_true.1 h _ hm
      have h1' : (e2.length + s2.length) * P.bytesOf q ≤ reachBytes := by simpa using h1
      have h3 : e2.length + s2.length ≤ (e2.length + s2.length) * P.bytesOf q := Nat.le_mul_of_pos_right _ hb
      have h4 := reachBytes_lt
      omega
end
end Go.Proofs.Ytgdemfjlhcepiaa
