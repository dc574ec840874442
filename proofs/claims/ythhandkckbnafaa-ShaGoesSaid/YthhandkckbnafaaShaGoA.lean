/-
  ShaGoes, ahead of its walk: what comes to a hash (Wrs); heavy; copied once more, each part in a block of its own; blocks that are wiped.
-/
import Derived.Test.YthhandkckbnafaaShaParts
import Derived.Test.YthhandkckbnafaaShaLaw
import Derived.Test.YthhandkckbnafaaO
import Derived.Deep.SlicePairs
import Derived.Lib.SliceRun
set_option linter.unusedVariables false
set_option linter.unusedSimpArgs false
namespace Go.Proofs.Ythhandkckbnafaa
open Go.RowKit Go.Proofs.YthhandkckbnafaaZ.ZA Go.Proofs.YthhandkckbnafaaW.PrintWords Go.Proofs.YthhandkckbnafaaW.PrintLast Go.Proofs.YthhandkckbnafaaW.PrintMore
open Go.ChangeShapes Go.WideShapes Go.ChangeAt
/-- One that comes: its parts (as a value, and what they read), and what is done then. -/
abbrev Wr := Value × List (List UInt8) × Int
def wrV (x : Wr) : List Value := [x.1, .int .i64 x.2.2]
def Wrs (w : World) (lv : Value) (l : List Wr) : Prop := RV w lv l.length 2 (l.flatMap wrV) ∧ ∀ x ∈ l, RBs w x.1 x.2.1 ∧ -9223372036854775808 ≤ x.2.2 ∧ x.2.2 ≤ 9223372036854775807
theorem Wrs.below {w w' : World} {lv : Value} {l : List Wr} (h : Wrs w lv l) (hb : Below w.heap.size w w') : Wrs w' lv l := ⟨h.1.below hb, fun x hx => ⟨(h.2 x hx).1.below hb, (h.2 x hx).2⟩⟩
theorem Wrs.at_ {w : World} {A : Option Addr} {c n : Nat} {l : List Wr} (h : Wrs w (.slice A n c) l) (k : Nat) (hk : k < l.length) :
    ∃ b o, A = some ⟨b, o, none⟩ ∧ w.cell? ⟨b, o + k * 2, none⟩ = some l[k].1 ∧ w.cell? ⟨b, o + k * 2 + 1, none⟩ = some (.int .i64 l[k].2.2) ∧ RBs w l[k].1 l[k].2.1 ∧ -9223372036854775808 ≤ l[k].2.2 ∧ l[k].2.2 ≤ 9223372036854775807 := by
  obtain ⟨h1, h2⟩ := h
  obtain ⟨hl, A', c', e, h3, h4, h5⟩ := h1
  rw [Value.slice.injEq] at e
  obtain ⟨rfl, -, rfl⟩ := e
  have hw2 : ∀ x ∈ l, (wrV x).length = 2 := fun x _ => rfl
  have g0 := flat_at wrV 2 l hw2 k hk 0 l[k].1 rfl
  have g1 := flat_at wrV 2 l hw2 k hk 1 (.int .i64 l[k].2.2) rfl
  obtain ⟨b, o, rfl, hc⟩ := h5 (fun e0 => by rw [e0] at g0; simp at g0)
  exact ⟨b, o, rfl, by have := hc _ _ g0; rwa [Nat.add_zero] at this, by have := hc _ _ g1; rwa [← Nat.add_assoc] at this, h2 _ (List.getElem_mem hk)⟩
section
variable {H : Type} {enc : TypeId × Value → H} {w : World} {base : Nat} {sp : Nat → Bool} {hd : Bool}
theorem cells_wr : Try.prog.cellsOf 41 = 2 := by kernel_rfl
theorem cells_i : Try.prog.cellsOf 3 = 1 := by kernel_rfl
theorem cells_pp : Try.prog.cellsOf 22 = 1 := by kernel_rfl
theorem arg_writes {r : Reach} {b0 : Nat} {v : Value} {d : DataW H} {ps : List MemPlace} (hval : Value.okWide Try.prog w r b0 30 v) (h : DataW.Trod enc Try.prog w base sp hd 30 v d ps) :
    ∃ l : List Wr, Wrs w v l ∧ Top d l.length := by
  obtain ⟨A, n, c, rfl⟩ := okWide_slice Try.underlying30 hval
  obtain ⟨fuel, hf⟩ := h
  rcases Deep.open_slice_pairs Try.underlying30 Try.underlying41 cells_wr rfl rfl cells_pp cells_i hf with ⟨h1, h2⟩ | ⟨a, len, cap, m, f2, V0, V1, D0, D1, P0, P1, h1, _, hl, hm, hmm, h2, hx⟩
  · have := cells_slice h1; simp at this; obtain ⟨rfl, rfl, rfl⟩ := this
    simp at h2
    exact ⟨[], ⟨RV_nil w 2, by simp⟩, .inl ⟨h2.1, rfl⟩⟩
  · have := cells_slice h1; simp only [Value.slice.injEq] at this; obtain ⟨rfl, rfl, rfl⟩ := this
    have hlm : len ≤ m := by rw [hmm]; split <;> omega
    obtain ⟨f, hfx⟩ := Deep.choose_lt (n := len) (α := Wr) (p := fun i y => w.cell? (a.add (i * 2)) = some y.1 ∧ w.cell? (a.add (i * 2 + 1)) = some (.int .i64 y.2.2) ∧ RBs w y.1 y.2.1 ∧ -9223372036854775808 ≤ y.2.2 ∧ y.2.2 ≤ 9223372036854775807) (fun i hi => by
      obtain ⟨c0, c1, t0, t1⟩ := hx i (by omega)
      obtain ⟨u, xs, hu, hr, _⟩ := rows_bytes Try.underlying22 (by kernel_rfl) Try.underlying28 Try.underlying5 (by kernel_rfl) t0
      obtain ⟨z, e1, _, w1⟩ := DataW.trod_int Try.underlying3 t1
      simp at hu e1
      rw [hu] at c0
      rw [e1] at c1
      exact ⟨(u, xs, z), c0, c1, hr, i64_wf w1⟩)
    have hll : ((List.range len).map f).length = len := by simp
    have hw2 : ∀ x ∈ (List.range len).map f, (wrV x).length = 2 := fun x _ => rfl
    have h3 : (((List.range len).map f).flatMap wrV).length = len * 2 := by
      have : ∀ l : List Wr, (l.flatMap wrV).length = l.length * 2 := by
        intro l
        induction l with
        | nil => rfl
        | cons x r ih => rw [List.flatMap_cons, List.length_append, ih, List.length_cons]; simp [wrV]; omega
      rw [this, hll]
    refine ⟨(List.range len).map f, ⟨?_, ?_⟩, .inr ⟨_, _, (congrArg Prod.fst h2), by simp⟩⟩
    · rw [hll]
      refine RV_of_cells hl hm h3 fun i u hi => ?_
      have hi2 : i < len * 2 := by have := (List.getElem?_eq_some_iff.1 hi).1; omega
      have hq : i / 2 < len := by omega
      obtain ⟨c0, c1, _⟩ := hfx (i / 2) hq
      have hfi : ((List.range len).map f)[i / 2]'(by rw [hll]; exact hq) = f (i / 2) := by simp
      rcases Nat.mod_two_eq_zero_or_one i with h0 | h0
      · have key := flat_at wrV 2 ((List.range len).map f) hw2 (i / 2) (by rw [hll]; exact hq) 0 (f (i / 2)).1 (by rw [hfi]; rfl)
        rw [show i / 2 * 2 + 0 = i by omega, hi] at key
        rw [key, ← c0]
        congr 2; omega
      · have key := flat_at wrV 2 ((List.range len).map f) hw2 (i / 2) (by rw [hll]; exact hq) 1 (.int .i64 (f (i / 2)).2.2) (by rw [hfi]; rfl)
        rw [show i / 2 * 2 + 1 = i by omega, hi] at key
        rw [key, ← c1]
        congr 2; omega
    · intro x hx'
      obtain ⟨i, hi, rfl⟩ := List.mem_map.1 hx'
      exact (hfx i (List.mem_range.1 hi)).2.2
end
/-- Whether more is written than is summed. -/
def wB (l : List Wr) : List UInt8 := l.flatMap fun x => x.2.1.flatten
def Light (x : Wr) : Prop := x.2.1.length ≤ 300 ∧ x.2.1.flatten.length ≤ 20000
def leftW (l : List Wr) (k : Nat) : Int := 20000 - ((wB (l.take k)).length : Int)
theorem leftW_step (l : List Wr) (k : Nat) (hk : k < l.length) : leftW l (k + 1) = leftW l k - ((l[k]).2.1.flatten.length : Int) := by
  unfold leftW wB
  rw [flat_succ (fun x : Wr => x.2.1.flatten) l k hk, List.length_append]
  omega
def HeavyPost (l : List Wr) (w : World) (e : Ending) (w' : World) : Prop := ∃ b : Bool, e = .returned (.bool b) ∧ Below w.heap.size w w' ∧ (b = false → l.length ≤ 100 ∧ (∀ x ∈ l, Light x) ∧ (wB l).length ≤ 20000)
theorem HeavyPost.yes {l : List Wr} {w w' : World} {e : Ending} (h : e = .returned (.bool true)) (hb : Below w.heap.size w w') : HeavyPost l w e w' := ⟨true, h, hb, fun h => by cases h⟩
theorem HeavyPost.no {l : List Wr} {w w' : World} {e : Ending} (h : e = .returned (.bool false)) (hb : Below w.heap.size w w') (h1 : l.length ≤ 100) (h2 : ∀ x ∈ l, Light x) (h3 : (wB l).length ≤ 20000) : HeavyPost l w e w' := ⟨false, h, hb, fun _ => ⟨h1, h2, h3⟩⟩
theorem wrap64_small2 (L : Int) (m : Nat) (h0 : 0 ≤ L) (h1 : L ≤ 20000) (h2 : m ≤ 20000) : wrap64 (L - (m : Int)) = L - (m : Int) := by unfold wrap64; omega
set_option maxHeartbeats 2000000 in
theorem heavy_calls (lv : Value) (l : List Wr) (w : World) (hlv : Wrs w lv l) :
    Calls Try.prog 16 #[lv] w (HeavyPost l w) := by
  obtain ⟨A, c, rfl⟩ := hlv.1.slice
  have hmax := hlv.1.max
  have hle : ∀ k, leftW l k ≤ 20000 := fun k => by unfold leftW; omega
  have ALE := Aside0.mk hle
  have ALV := Aside0.mk hlv
  clear hle hlv
  go_enter Try.func16, Try.ntmps16
  go_wp2_with fail
  go_loopw [3, 4] (fun v i wr => ∃ k : Nat, k ≤ l.length ∧ i = .int .i64 (k : Int) ∧ v = .int .i64 (leftW l k) ∧ -9223372036854775807 ≤ leftW l k ∧ (∀ x ∈ l.take k, Light x) ∧ Below w.heap.size w wr) (fun _ i _ => l.length - (intOf i).toNat)
  case atStart => exact ⟨0, Nat.zero_le _, rfl, by simp [leftW, wB], by simp [leftW, wB], by simp, Below.refl _ _⟩
  case round =>
    obtain ⟨k, hk, rfl, rfl, hlo, hli, hb⟩ := hrel
    have ALI := Aside0.mk hli
    clear hli
    by_cases hlt : k < l.length
    · by_cases h0 : 0 ≤ leftW l k
      · have hwr := ALV.out.below hb
        obtain ⟨b, o, rfl, hc0, hc1, hrb, _, _⟩ := hwr.at_ k hlt
        have hst := leftW_step l k hlt
        have hli2 : Light l[k] → ∀ x ∈ l.take (k + 1), Light x := fun h x hx => by
          rw [List.take_succ_eq_append_getElem hlt] at hx
          rcases List.mem_append.1 hx with hx | hx
          · exact ALI.out x hx
          · simp at hx; subst hx; exact h
        obtain ⟨x, HX⟩ := hidden l[k]
        rw [HX.out] at hc0 hrb hst hli2
        obtain ⟨xv, xp, xd⟩ := x
        simp only at hc0 hrb hst
        obtain ⟨m, hm⟩ : ∃ m, xp.flatten.length = m := ⟨_, rfl⟩
        rw [hm] at hst
        have AHM := Aside0.mk hm
        have ARB := Aside0.mk hrb
        have AST := Aside0.mk hst
        have AL2 := Aside0.mk hli2
        clear hwr hc1 hrb hst hli2 hm
        have h2 := ALE.out k
        obtain ⟨L, hL⟩ : ∃ L, leftW l k = L := ⟨_, rfl⟩
        rw [hL] at hlo h0 h2 AST ⊢
        clear hL
        go_wp2_with (first
          | (go_at_call 10; refine (much_calls xv xp _ ARB.out).mono ?_; rintro e w1 ⟨bm, rfl, rfl, hmuch⟩; cases bm; (have AMU := Aside0.mk (hmuch rfl); clear hmuch); rotate_left; clear hmuch)
          | (go_at_call 14; refine (all_calls xv xp _ ARB.out (by have := AMU.out.2; omega)).mono ?_; rintro e w5 ⟨v5, rfl, ho5, hb5⟩; rw [AHM.out] at ho5; obtain ⟨A5, c5, rfl⟩ := (RV_own ho5).slice; have hm2 : m ≤ 20000 := AHM.out ▸ AMU.out.2; clear ho5; have hw := wrap64_small2 L m h0 h2 hm2))
        · go_ret
          exact HeavyPost.yes rfl hb
        have hbb := below_size2 hb hb5
        clear hw
        go_roundw
        case rel => exact ⟨k + 1, by omega, by go_num, by rw [AST.out], by rw [AST.out]; omega, AL2.out AMU.out, hbb⟩
        case measure => simp [intOf]; omega
      · obtain ⟨L, hL⟩ : ∃ L, leftW l k = L := ⟨_, rfl⟩
        rw [hL] at hlo h0 ⊢
        have hneg : L < 0 := by omega
        have h0' : ¬ (L ≥ 0) := by omega
        by_cases h300 : (100 : Int) < (l.length : Int)
        · go_wp2_with fail
          go_ret
          exact HeavyPost.yes rfl hb
        · go_wp2_with fail
          go_ret
          exact HeavyPost.yes rfl hb
    · have hkl : k = l.length := by omega
      subst hkl
      have hfl : leftW l l.length = 20000 - ((wB l).length : Int) := by unfold leftW; rw [List.take_length]
      have hall : ∀ x ∈ l, Light x := by have := ALI.out; rwa [List.take_length] at this
      have AFL := Aside0.mk hfl
      have AHA := Aside0.mk hall
      clear hfl hall
      obtain ⟨L, hL⟩ : ∃ L, leftW l l.length = L := ⟨_, rfl⟩
      rw [hL] at hlo AFL ⊢
      clear hL
      by_cases h0 : L < 0
      · skip
        by_cases h300 : (100 : Int) < (l.length : Int)
        · go_wp2_with fail
          go_ret
          exact HeavyPost.yes rfl hb
        · go_wp2_with fail
          go_ret
          exact HeavyPost.yes rfl hb
      · skip
        by_cases h300 : (100 : Int) < (l.length : Int)
        · go_wp2_with fail
          go_ret
          exact HeavyPost.yes rfl hb
        · go_wp2_with fail
          go_ret
          exact HeavyPost.no rfl hb (by omega) AHA.out (by have := AFL.out; omega)
--MORE
/-- append, and where the row lies then: where it lay, or in a block of its own. -/
theorem wpList_append_sep {P : Program} {w : World} {ops : Array Oper} {rest : List Oper} {o : Oper} {a : Act} {Q : Exit → Act → World → Prop} (s x : Operand) (t : TypeId)
    (base : Nat) (e : TypeId) (z : Value) (size bytes : Nat) (ht : P.underlying t = some (.slice e)) (hinfo : (P.info? e).map (fun i => (i.zero, i.size, i.bytes)) = some (some z, size, bytes))
    {v : Value} {n : Nat} {xs : List Value} (hown : w.ownsRow base e size v n xs) {y : Value} {m : Nat} {news : List Value} (hnews : RV w y m size news) (h1 : ∀ u ∈ news, u.oneCell' = true)
    (hbytes : (n + m) * bytes ≤ 140737488355328) (hbase : base ≤ w.heap.size)
    (hgd : o.guard = none) (ho : o.op = .call { callee := .builtin .append, args := #[s, x], argTypes := #[t, t] }) (hs : a.eval s = v) (hx : a.eval x = y)
    (hzs : z.cells.size = size) (hsz : 0 < size) (hby0 : 0 < bytes)
    (h : ∀ v' w', w'.ownsRow base e size v' (n + m) (xs ++ news) → Below base w w' → w.grownBy w' v.ownBlock → (v'.ownBlock = v.ownBlock ∨ ∀ q, v'.ownBlock = some q → w.heap.size ≤ q) → wpList P ops Q rest (a.put o.dst v') w') : wpList P ops Q (o :: rest) a w := by
  have h63 : n + m ≤ maxLen := by
    have : (n + m) * 1 ≤ (n + m) * bytes := Nat.mul_le_mul_left _ hby0
    unfold maxLen; omega
  have hgb : ∀ w', w.grownBy w' v.ownBlock → Below base w w' := fun w' hg => (Below.refl base w).grown hg hbase (fun k hk => own_ge hown k hk)
  have hown0 := hown
  rcases hown.2 with ⟨hv, hn0⟩ | ⟨g, cap, cur, hv, hbg, hg, hnc, hcm, hcs, htake⟩
  · have hxs : xs = [] := List.eq_nil_of_length_eq_zero (by rw [hown.1, hn0]; simp)
    have hown2 : w.ownsRow w.heap.size e size v n xs := by rw [hv, hn0, hxs]; exact World.ownsRow_nil _ _ _ _
    exact wpList_append_rv s x t w.heap.size e z size bytes ht hinfo hown2 hnews h1 hbytes (Nat.le_refl _) hgd ho hs hx hzs hsz hby0 fun v' w' h2 _ h3 => h v' w' (own_base h2 hbase) (hgb w' h3) h3 (.inr fun q hq => own_ge h2 q hq)
  obtain ⟨i, hi, hz, hsize, hby⟩ := info_parts hinfo
  obtain ⟨hl, A, c, e1, hc1, hc2, hc3⟩ := hnews
  by_cases h0 : news = []
  · have hm0 : m = 0 := by
      rcases Nat.eq_zero_or_pos m with h | h
      · exact h
      · have := Nat.mul_pos h hsz; rw [h0] at hl; simp at hl; omega
    subst hm0; subst h0; subst hv
    have hrun : (Builtin.append_ #[t, t] o.type #[.slice (some ⟨g, 0, none⟩) n cap, y]).run P w = .ok (.slice (some ⟨g, 0, none⟩) n cap) w := by
      cases A <;> simp [e1, Builtin.append_, run_underlying ht, sizeOf, typeInfo, hi, Builtin.lenOf, Builtin.firstCells, hnc, storeCells, loadCells, loadCellsFrom]
    refine wpList_plain hgd fun K hK => ?_
    unfold Oper.wp
    simp [execOp, ho, resolve, invoke, builtin, hs, hx, hrun, Result.andThen]
    exact hK _ _ (h _ w (by simpa using hown) (Below.refl _ _) (World.grownBy.refl _ _) (.inl rfl))
  · obtain ⟨b, of, rfl, hcc⟩ := hc3 h0
    have hnew2 : ∀ j u, news[j]? = some u → w.cell? ((⟨b, of, none⟩ : Addr).add j) = some u := fun j u hj => by rw [add_plain]; exact hcc j u hj
    obtain ⟨v', w', hr, h2, h3, _⟩ := run_append_own (P := P) w base t o.type e i z size bytes ht hi hz hsize hby hzs hsz v n xs hown ⟨b, of, none⟩ m c news hl hnew2 h1 h63 hbytes hbase
    have hsep : v'.ownBlock = v.ownBlock ∨ ∀ q, v'.ownBlock = some q → w.heap.size ≤ q := by
      subst hv
      subst hsize
      by_cases hroom : n + m ≤ cap
      · have hr2 := run_append_room (P := P) w t o.type e i ht hi g n cap cur hg ⟨b, of, none⟩ m c news hl hnew2 h1 hroom (by rw [hl, hcs, ← Nat.add_mul]; exact Nat.mul_le_mul_right _ hroom)
        rw [hr] at hr2
        injection hr2 with hv2 _
        left; rw [hv2]; rfl
      · have hr2 := run_append_grow (P := P) w t o.type e i z ht hi hz ⟨g, 0, none⟩ n cap xs hown.1 (hown0.cells (g := g) rfl) ⟨b, of, none⟩ m c news hl hnew2 (by omega) (by unfold maxLen at h63; omega) (growslice_fits (by omega) (by rw [hby]; exact hbytes))
        rw [hr] at hr2
        injection hr2 with hv2 _
        right; intro q hq; rw [hv2] at hq; have : w.heap.size = q := Option.some.inj hq; omega
    refine wpList_plain hgd fun K hK => ?_
    unfold Oper.wp
    rw [e1] at hx
    simp [execOp, ho, resolve, invoke, builtin, hs, hx, hr, Result.andThen]
    exact hK _ _ (h v' w' h2 (hgb w' h3) h3 hsep)
/-- Beside the blocks from s0 up to s1 all is as it was. -/
structure Out (s0 s1 : Nat) (w w' : World) : Prop where
  os : w'.os = w.os
  tape : w'.tape = w.tape
  output : w'.output = w.output
  size : w'.heap.size = w.heap.size
  block : ∀ i, i < s0 ∨ s1 ≤ i → w'.heap[i]? = w.heap[i]?
theorem Out.refl (s0 s1 : Nat) (w : World) : Out s0 s1 w w := ⟨rfl, rfl, rfl, rfl, fun _ _ => rfl⟩
theorem Out.trans {s0 s1 : Nat} {a b c : World} (h : Out s0 s1 a b) (k : Out s0 s1 b c) : Out s0 s1 a c := ⟨k.os.trans h.os, k.tape.trans h.tape, k.output.trans h.output, k.size.trans h.size, fun i hi => (k.block i hi).trans (h.block i hi)⟩
theorem Out.below {s0 s1 B : Nat} {w w' : World} (h : Out s0 s1 w w') (hB : B ≤ s0) : Below B w w' := ⟨h.os, h.tape, h.output, Nat.le_of_eq h.size.symm, fun i hi => h.block i (.inl (Nat.lt_of_lt_of_le hi hB))⟩
theorem Out.own {s0 s1 base : Nat} {e : TypeId} {size n : Nat} {w w' : World} {v : Value} {xs : List Value} (h : Out s0 s1 w w') (ho : w.ownsRow base e size v n xs) (hv : ∀ q, v.ownBlock = some q → q < s0 ∨ s1 ≤ q) : w'.ownsRow base e size v n xs := by
  refine ⟨ho.1, ?_⟩
  rcases ho.2 with h2 | ⟨b, cap, cur, rfl, h3, hb, h4⟩
  · exact .inl h2
  · exact .inr ⟨b, cap, cur, rfl, h3, by rw [h.block b (hv b rfl)]; exact hb, h4⟩
theorem HSP.out {P : Nat → Prop} {w0 w w' : World} {g b s0 s1 : Nat} {M : List UInt8} (hh : HSP P w0 w g M b) (h : Out s0 s1 w w') (hg : g < s0 ∨ s1 ≤ g) (hP : ∀ r, P r → s1 ≤ r) : HSP P w' w' g M b := by
  obtain ⟨H, A, c, h1, h2, h3, h4, h5, h6⟩ := hh
  refine ⟨H, A, c, ⟨by rw [h.block g hg]; exact h1.1, h1.2.1, World.grownBy.refl _ _⟩, h2, h3, ?_, h5, h6⟩
  obtain ⟨hl, A', c', e, r1, r2, r3⟩ := h4
  rw [Value.slice.injEq] at e
  obtain ⟨rfl, -, rfl⟩ := e
  refine ⟨hl, A, c, rfl, r1, r2, fun hx => ?_⟩
  obtain ⟨b', o, e, hc⟩ := r3 hx
  refine ⟨b', o, e, fun j u hj => ?_⟩
  have := hc j u hj
  rw [← this]
  exact World.cell?_of_block (a := ⟨b', o + j, none⟩) (h.block b' (.inr (hP _ (h6 _ e))))
theorem zero_u8 : ∀ w, (zeroValue 5).run Try.prog w = .ok (.int .u8 0) w := fun w => by go_simp
/-- What 'clear' does to bytes that lie in a block of their own. -/
theorem clear_own {w : World} {s0 s1 n : Nat} {u : Value} {ys : List Value} (h : w.ownsRow s0 5 1 u n ys) (hs : ∀ q, u.ownBlock = some q → q < s1) :
    ∃ w', (∀ ty, (Builtin.clear_ #[28] ty #[u]).run Try.prog w = .ok (.tuple #[]) w') ∧ Out s0 s1 w w' ∧ (∀ v k zs, w.ownsRow s0 5 1 v k zs → ∃ zs', w'.ownsRow s0 5 1 v k zs') ∧ (∀ base e size v k zs, e ≠ 5 → w.ownsRow base e size v k zs → w'.ownsRow base e size v k zs) := by
  by_cases hn : n = 0
  · subst hn
    refine ⟨w, fun ty => ?_, Out.refl _ _ _, fun v k zs h => ⟨zs, h⟩, fun base e size v k zs _ h => h⟩
    rcases h.2 with ⟨rfl, _⟩ | ⟨b, cap, cur, rfl, _⟩
    · simp [Builtin.clear_, run_underlying Try.underlying28]
    · simp [Builtin.clear_, run_underlying Try.underlying28]
  · rcases h.2 with ⟨_, h0⟩ | ⟨g, cap, cur, rfl, hbg, hg, hnc, hcm, hcs, htake⟩
    · exact absurd h0 hn
    · have hgs := hs g rfl
      have hcs' : cur.size = cap := by omega
      obtain ⟨cur', k1, k2, k3⟩ := setCells_row (List.replicate n (.int .u8 0)) 0 w cur hg (by rw [List.length_replicate]; omega)
      obtain ⟨q1, q2, q3, q4⟩ := setCells_same g (List.replicate n (.int .u8 0)) 0 w
      have hrun : ∀ ty, (Builtin.clear_ #[28] ty #[.slice (some ⟨g, 0, none⟩) n cap]).run Try.prog w = .ok (.tuple #[]) (w.setCells g 0 (List.replicate n (.int .u8 0))) := fun ty =>
        Lib.run_clear_slice w 28 5 ty (.int .u8 0) Try.underlying28 zero_u8 rfl rfl g 0 n cap (by omega) (fun j hj => by rw [blk_cell hg, Array.getElem?_eq_getElem (by omega)]; rfl) (fun j hj => blk_frozen hg _)
      refine ⟨_, hrun, ⟨q1, q2, q3, q4, fun i hi => setCells_far _ _ i (by omega)⟩, fun v k zs hv => ?_, fun base e size v k zs he hv => ?_⟩
      · rcases hv.2 with ⟨rfl, rfl⟩ | ⟨b, cap2, cur2, rfl, b1, b2, b3, b4, b5, b6⟩
        · exact ⟨zs, hv.1, .inl ⟨rfl, rfl⟩⟩
        · by_cases hbg2 : b = g
          · subst hbg2
            rw [hg] at b2
            have hce := Option.some.inj b2
            injection hce with hce1 _ _
            subst hce1
            exact ⟨(cur'.toList.take (k * 1)), by rw [List.length_take, Array.length_toList]; omega, .inr ⟨b, cap2, cur', rfl, b1, k1, b3, b4, by omega, rfl⟩⟩
          · exact ⟨zs, hv.1, .inr ⟨b, cap2, cur2, rfl, b1, by rw [setCells_far _ _ b hbg2]; exact b2, b3, b4, b5, b6⟩⟩
      · refine ⟨hv.1, ?_⟩
        rcases hv.2 with h2 | ⟨b, cap2, cur2, rfl, b1, b2, b3⟩
        · exact .inl h2
        · refine .inr ⟨b, cap2, cur2, rfl, b1, ?_, b3⟩
          have hbg2 : b ≠ g := by
            rintro rfl
            rw [hg] at b2
            have hce := Option.some.inj b2
            injection hce with _ hce2 _
            exact he hce2.symm
          rw [setCells_far _ _ b hbg2]; exact b2
set_option maxHeartbeats 2000000 in
theorem copied_at (lv : Value) (l : List (List UInt8)) (w : World) (hlv : RBs w lv l) (hn : l.length ≤ 300) (hl : l.flatten.length ≤ 20000) :
    Calls Try.prog 12 #[lv] w fun e w' => ∃ v', e = .returned v' ∧ (∃ us : List Value, us.length = l.length ∧ w'.ownsRow w.heap.size 28 1 v' l.length us ∧ ∀ (q : Nat) (u : Value) (x : List UInt8), us[q]? = some u → l[q]? = some x → w'.ownsRow w.heap.size 5 1 u x.length (bs x)) ∧ Below w.heap.size w w' := by
  obtain ⟨vs, hvs, hel⟩ := hlv
  obtain ⟨A, c, rfl⟩ := hvs.slice
  have hmax := hvs.max
  have hmono : ∀ k (hk : k < l.length), (l[k]).length ≤ 20000 := fun k hk => by
    have h1 := flatten_succ l k hk
    have h2 : l.flatten = (l.take (k + 1)).flatten ++ (l.drop (k + 1)).flatten := by rw [← List.flatten_append, List.take_append_drop]
    have h3 := congrArg List.length h2
    rw [h1, List.length_append, List.length_append] at h3
    omega
  have AM := Aside0.mk hmono
  have AHL := Aside0.mk hl
  clear hmono hl
  go_enter Try.func12, Try.ntmps12
  go_wp2_with fail
  go_loopw [3, 4] (fun v i wr => ∃ k : Nat, k ≤ l.length ∧ i = .int .i64 k ∧ (∃ us : List Value, us.length = k ∧ (∀ u ∈ us, u.oneCell' = true) ∧ wr.ownsRow w.heap.size 28 1 v k us ∧ ∀ (q : Nat) (u : Value) (x : List UInt8), us[q]? = some u → l[q]? = some x → wr.ownsRow w.heap.size 5 1 u x.length (bs x)) ∧ Below w.heap.size w wr) (fun _ i _ => l.length - (intOf i).toNat)
  case atStart => exact ⟨0, Nat.zero_le _, rfl, ⟨[], rfl, by simp, World.ownsRow_nil _ _ _ _, by simp⟩, Below.refl _ _⟩
  case round =>
    obtain ⟨k, hk, rfl, ⟨us, hul, hu1, hown, hus⟩, hb⟩ := hrel
    by_cases hlt : k < l.length
    · obtain ⟨b, o, u, rfl, hu, hcell, hbw⟩ := hvs.at_ k hlt
      have hux := hel k u l[k] hu (List.getElem?_eq_getElem hlt)
      have hcell2 : wr.cell? ⟨b, o + k, none⟩ = some u := (hb.cell hbw).trans hcell
      have hxl := AM.out k hlt
      have hlk : l[k]? = some l[k] := List.getElem?_eq_getElem hlt
      obtain ⟨x, HX⟩ := hidden l[k]
      rw [HX.out] at hux hxl hlk
      obtain ⟨A', c', rfl⟩ := hux.slice
      have hxm := hux.max
      have hO := World.ownsRow_made (base := wr.heap.size) (e := 5) (size := 1) wr #[] 0 (Nat.le_refl _) (by decide) rfl
      have hr := (hux.below hb).alloc (.cells #[] 5)
      have hcell3 := cell_below hcell2 ((Below.refl wr.heap.size wr).alloc (Nat.le_refl _) (.cells #[] 5))
      have AU := Aside0.mk hus
      have AU1 := Aside0.mk hu1
      have AOW := Aside0.mk hown
      have ALK := Aside0.mk hlk
      clear hus hu1 hown hlk hcell
      go_wp2_with (first
        | (at_builtin; refine wpList_append_rv (.tmp 12) (.tmp 16) 28 wr.heap.size 5 (.int .u8 0) 1 1 Try.underlying28 info_u8 hO hr (bs_one x) (by omega) (by simp) rfl rfl rfl rfl rfl (by decide) (by decide) ?_; intro v3 w3 ho3 hb3 _; have hbw3 : Below wr.heap.size wr w3 := ((Below.refl _ _).alloc (Nat.le_refl _) _).trans hb3; obtain ⟨A3, c3, rfl⟩ := (RV_own ho3).slice; have hown3 := own_below AOW.out hbw3; have hbb3 := hb.trans (hbw3.mono hb.size))
        | (at_builtin; refine wpList_append_rv (.tmp 11) (.tmp 18) 22 w.heap.size 28 (.slice none 0 0) 1 24 Try.underlying22 info_sl (hown3.alloc (.cells #[.slice A3 x.length c3] 28)) (RV_new w3 [.slice A3 x.length c3] 28 1 1 (0, 0) rfl (by decide)) (by intro u hu; simp at hu; subst hu; rfl) (by omega) (by simp; have := hbb3.size; omega) rfl rfl rfl rfl rfl (by decide) (by decide) ?_; intro v4 w4 ho4 hb4 hg4))
      have hownA := hown3.alloc (.cells #[.slice A3 x.length c3] 28)
      have hbA : Below w3.heap.size w3 (w3.alloc (.cells #[.slice A3 x.length c3] 28)) := (Below.refl _ _).alloc (Nat.le_refl _) _
      have hkeep : ∀ (u : Value) (y : List UInt8), w3.ownsRow w.heap.size 5 1 u y.length (bs y) → w4.ownsRow w.heap.size 5 1 u y.length (bs y) := fun u y ho => by
        have h1 := own_below ho hbA
        exact own_other h1 hg4 (own_type_ne h1 hownA (by decide))
      have hnew : w4.ownsRow w.heap.size 5 1 (.slice A3 x.length c3) x.length (bs x) := by
        have h := hkeep _ x (own_len (Go.Proofs.Ythhandkckbnafaa.own_base ho3 hb.size) (by simp) (by simp))
        rw [Nat.zero_add] at h
        exact h
      have hold : ∀ (q : Nat) (u : Value) (y : List UInt8), us[q]? = some u → l[q]? = some y → w4.ownsRow w.heap.size 5 1 u y.length (bs y) := fun q u y h1 h2 => hkeep u y (own_below (AU.out q u y h1 h2) hbw3)
      have hb44 : Below w.heap.size w w4 := (hbb3.trans (hbA.mono hbb3.size)).trans hb4
      go_roundw
      case rel =>
        refine ⟨k + 1, by omega, by go_num, ⟨us ++ [.slice A3 x.length c3], by simp [hul], ?_, ho4, ?_⟩, hb44⟩
        · intro u hu
          rcases List.mem_append.1 hu with h | h
          · exact AU1.out u h
          · simp at h; subst h; rfl
        · intro q u y h1 h2
          rcases Nat.lt_or_ge q k with hq | hq
          · rw [List.getElem?_append_left (by omega)] at h1
            exact hold q u y h1 h2
          · rw [List.getElem?_append_right (by omega), hul] at h1
            have hqk : q = k := by
              have := (List.getElem?_eq_some_iff.1 h1).1
              simp at this
              omega
            subst hqk
            rw [Nat.sub_self] at h1
            obtain rfl := Option.some.inj h1
            rw [ALK.out] at h2
            obtain rfl := Option.some.inj h2
            exact hnew
      case measure => simp [intOf]; omega
    · have hkl : k = l.length := by omega
      subst hkl
      go_wp2_with fail
      go_ret
      exact ⟨_, rfl, ⟨us, hul, hown, hus⟩, hb⟩
end Go.Proofs.Ythhandkckbnafaa
