/-
  Words that this seat's walks share: what a slice reads as, and how long that stays so. Nothing of the program stands here.
-/
import Derived.WalkKit
import Derived.WalkSpells
import Derived.WalkLawsBesides
import Derived.Laws.AppendOwnNone
import Derived.Lib.AppendStr
import Derived.Deep.WholeRow
import Derived.Deep.MidRow
set_option linter.unusedVariables false
set_option linter.unusedSimpArgs false
namespace Go.Proofs.Ythhandkckbnafaa
open Go.RowKit

theorem hid {p : Prop} (h : p) : Hid p := h
theorem hidden {α : Type} (a : α) : ∃ x, Hid (a = x) := ⟨a, (rfl : a = a)⟩
/-- Bytes as cells. -/
def bs (xs : List UInt8) : List Value := xs.map fun b => .int .u8 (b.toNat : Int)
theorem bs_nil : bs [] = [] := rfl
theorem bs_length (xs : List UInt8) : (bs xs).length = xs.length := by simp [bs]
theorem bs_append (xs ys : List UInt8) : bs (xs ++ ys) = bs xs ++ bs ys := by simp [bs]
theorem bs_one (xs : List UInt8) : ∀ u ∈ bs xs, u.oneCell' = true := by intro u hu; simp [bs] at hu; obtain ⟨b, _, rfl⟩ := hu; rfl
theorem bs_at (xs : List UInt8) (j : Nat) (h : j < xs.length) : (bs xs)[j]? = some (.int .u8 (xs[j].toNat : Int)) := by simp [bs, h]
/-- Whole numbers as cells. -/
def ns (k : IntKind) (xs : List Int) : List Value := xs.map fun x => .int k x
theorem ns_length (k : IntKind) (xs : List Int) : (ns k xs).length = xs.length := by simp [ns]
theorem ns_append (k : IntKind) (xs ys : List Int) : ns k (xs ++ ys) = ns k xs ++ ns k ys := by simp [ns]
theorem ns_one (k : IntKind) (xs : List Int) : ∀ u ∈ ns k xs, u.oneCell' = true := by intro u hu; simp [ns] at hu; obtain ⟨b, _, rfl⟩ := hu; rfl
theorem ns_at (k : IntKind) (xs : List Int) (j : Nat) (h : j < xs.length) : (ns k xs)[j]? = some (.int k xs[j]) := by simp [ns, h]

/-- The value v is a slice of n elements of sz cells each, whose cells read xs. -/
def RV (w : World) (v : Value) (n sz : Nat) (xs : List Value) : Prop :=
  xs.length = n * sz ∧ ∃ A c, v = .slice A n c ∧ n ≤ c ∧ n ≤ maxLen ∧ (xs ≠ [] → ∃ b o, A = some ⟨b, o, none⟩ ∧ ∀ j u, xs[j]? = some u → w.cell? ⟨b, o + j, none⟩ = some u)

theorem add_plain (b o j : Nat) : (⟨b, o, none⟩ : Addr).add j = ⟨b, o + j, none⟩ := by unfold Addr.add; split <;> simp_all

theorem RV.len {w : World} {v : Value} {n sz : Nat} {xs : List Value} (h : RV w v n sz xs) : xs.length = n * sz := h.1
theorem RV.slice {w : World} {v : Value} {n sz : Nat} {xs : List Value} (h : RV w v n sz xs) : ∃ A c, v = .slice A n c := by obtain ⟨_, A, c, e, _⟩ := h; exact ⟨A, c, e⟩
theorem RV.max {w : World} {v : Value} {n sz : Nat} {xs : List Value} (h : RV w v n sz xs) : n ≤ 9223372036854775807 := by
  obtain ⟨_, A, c, _, h1, h2, _⟩ := h; simp only [maxLen] at h2; omega
/-- Empty, or at a plain address. -/
theorem RV.parts {w : World} {v : Value} {n sz : Nat} {xs : List Value} (h : RV w v n sz xs) (hs : 0 < sz) :
    (n = 0 ∧ xs = [] ∧ ∃ A c, v = .slice A 0 c) ∨ (0 < n ∧ ∃ b o c, v = .slice (some ⟨b, o, none⟩) n c ∧ n ≤ c ∧ ∀ j u, xs[j]? = some u → w.cell? ⟨b, o + j, none⟩ = some u) := by
  obtain ⟨hl, A, c, e, h1, h2, h3⟩ := h
  rcases Nat.eq_zero_or_pos n with h0 | h0
  · subst h0; exact .inl ⟨rfl, List.eq_nil_of_length_eq_zero (by omega), A, c, e⟩
  · have : 0 < n * sz := Nat.mul_pos h0 hs
    obtain ⟨b, o, ha, hc⟩ := h3 (by intro hx; rw [hx] at hl; simp at hl; omega)
    subst ha
    exact .inr ⟨h0, b, o, c, e, h1, hc⟩
theorem RV.keep {w w' : World} {v : Value} {n sz : Nat} {xs : List Value} (h : RV w v n sz xs) (hk : ∀ a u, w.cell? a = some u → u ∈ xs → w'.cell? a = some u) : RV w' v n sz xs := by
  obtain ⟨hl, A, c, e, h1, h2, h3⟩ := h
  refine ⟨hl, A, c, e, h1, h2, fun hx => ?_⟩
  obtain ⟨b, o, ha, hc⟩ := h3 hx
  exact ⟨b, o, ha, fun j u hj => hk _ _ (hc j u hj) (List.mem_of_getElem? hj)⟩
theorem RV.below {w w' : World} {v : Value} {n sz : Nat} {xs : List Value} (h : RV w v n sz xs) (hb : Below w.heap.size w w') : RV w' v n sz xs :=
  h.keep fun a u hc _ => (hb.cell (World.block_lt_of_cell? w a hc)).trans hc
theorem RV.alloc {w : World} {v : Value} {n sz : Nat} {xs : List Value} (h : RV w v n sz xs) (o : Obj) : RV (w.alloc o) v n sz xs :=
  h.below ((Below.refl _ _).alloc (Nat.le_refl _) o)
theorem RV.drew {w : World} {v : Value} {n sz : Nat} {xs : List Value} (h : RV w v n sz xs) : RV w.drew v n sz xs := h
theorem RV_nil (w : World) (sz : Nat) : RV w (.slice none 0 0) 0 sz [] := ⟨by simp, none, 0, rfl, by omega, by simp [maxLen], fun h => absurd rfl h⟩
theorem RV_new (w : World) (cs : List Value) (e : TypeId) (n sz : Nat) (f : Nat × Nat) (hl : cs.length = n * sz) (hm : n ≤ maxLen) : RV (w.alloc (.cells cs.toArray e f)) (.slice (some ⟨w.heap.size, 0, none⟩) n n) n sz cs := by
  refine ⟨hl, some ⟨w.heap.size, 0, none⟩, n, rfl, Nat.le_refl _, hm, fun _ => ⟨_, _, rfl, fun j u hj => ?_⟩⟩
  rw [Nat.zero_add, World.cell?_alloc_mark]; simpa using hj
theorem RV_own {w : World} {base : Nat} {e : TypeId} {sz : Nat} {v : Value} {n : Nat} {xs : List Value} (h : w.ownsRow base e sz v n xs) : RV w v n sz xs := by
  have h0 := h
  obtain ⟨hl, h2⟩ := h
  rcases h2 with ⟨rfl, rfl⟩ | ⟨g, cap, cur, rfl, _, hh, h3, h4, h5, h6⟩
  · simp at hl; subst hl; exact RV_nil w sz
  · refine ⟨hl, _, cap, rfl, h3, Nat.le_trans h3 h4, fun _ => ⟨g, 0, rfl, fun j u hj => ?_⟩⟩
    have := h0.cells (g := g) rfl j u hj
    rwa [add_plain] at this

/-- A slice of slices of bytes. -/
def RBs (w : World) (lv : Value) (ls : List (List UInt8)) : Prop :=
  ∃ vs : List Value, RV w lv ls.length 1 vs ∧ ∀ (i : Nat) (v : Value) (x : List UInt8), vs[i]? = some v → ls[i]? = some x → RV w v x.length 1 (bs x)
theorem RBs.below {w w' : World} {lv : Value} {ls : List (List UInt8)} (h : RBs w lv ls) (hb : Below w.heap.size w w') : RBs w' lv ls := by
  obtain ⟨vs, h1, h2⟩ := h
  exact ⟨vs, h1.below hb, fun i v x hv hx => (h2 i v x hv hx).below hb⟩
/-- Texts as cells. -/
def ss (l : List ByteArray) : List Value := l.map fun s => .string s
theorem ss_at (xs : List ByteArray) (j : Nat) (h : j < xs.length) : (ss xs)[j]? = some (.string xs[j]) := by simp [ss, h]
theorem RV.at_ {w : World} {A : Option Addr} {c n : Nat} {xs : List Value} (h : RV w (.slice A n c) n 1 xs) (k : Nat) (hk : k < n) : ∃ b o u, A = some ⟨b, o, none⟩ ∧ xs[k]? = some u ∧ w.cell? ⟨b, o + k, none⟩ = some u ∧ b < w.heap.size := by
  obtain ⟨hl, A', c', e, h1, h2, h3⟩ := h
  simp only [Value.slice.injEq] at e
  obtain ⟨rfl, _, rfl⟩ := e
  obtain ⟨b, o, ha, hc⟩ := h3 (by intro hx; rw [hx] at hl; simp at hl; omega)
  have hkl : k < xs.length := by omega
  have hg : xs[k]? = some xs[k] := List.getElem?_eq_getElem hkl
  exact ⟨b, o, xs[k], ha, hg, hc k _ hg, World.block_lt_of_cell? w _ (hc k _ hg)⟩
theorem flat_succ {α β : Type} (f : α → List β) (l : List α) (k : Nat) (h : k < l.length) : (l.take (k + 1)).flatMap f = (l.take k).flatMap f ++ f l[k] := by
  rw [List.take_succ_eq_append_getElem h, List.flatMap_append]; simp only [List.flatMap_cons, List.flatMap_nil, List.append_nil]
theorem flat_at {α β : Type} (f : α → List β) (m : Nat) (l : List α) (hm : ∀ x ∈ l, (f x).length = m) (k : Nat) (h : k < l.length) (j : Nat) (u : β) (hj : (f l[k])[j]? = some u) : (l.flatMap f)[k * m + j]? = some u := by
  induction l generalizing k with
  | nil => simp at h
  | cons x r ih =>
    have hx : (f x).length = m := hm x (by simp)
    rw [List.flatMap_cons]
    cases k with
    | zero => simp only [List.getElem_cons_zero] at hj; rw [Nat.zero_mul, Nat.zero_add, List.getElem?_append_left (by have := (List.getElem?_eq_some_iff.1 hj).1; omega)]; exact hj
    | succ k =>
      simp only [List.getElem_cons_succ] at hj
      rw [List.getElem?_append_right (by rw [hx, Nat.add_mul]; omega), hx, show (k + 1) * m + j - m = k * m + j by rw [Nat.add_mul]; omega]
      exact ih (fun y hy => hm y (by simp [hy])) k (by simpa using h) hj
theorem flatten_succ {α : Type} (l : List (List α)) (k : Nat) (h : k < l.length) : (l.take (k + 1)).flatten = (l.take k).flatten ++ l[k] := by
  rw [List.take_succ_eq_append_getElem h, List.flatten_append]; simp only [List.flatten_cons, List.flatten_nil, List.append_nil]
theorem flatten_len {α : Type} (m : Nat) (l : List (List α)) (hm : ∀ x ∈ l, x.length = m) : l.flatten.length = m * l.length := by
  induction l with
  | nil => simp
  | cons y r ih => have h1 := hm y (by simp); have h2 := ih (fun z hz => hm z (by simp [hz])); simp only [List.flatten_cons, List.length_append, h1, h2, List.length_cons, Nat.mul_add]; omega
theorem flatten_take_len {α : Type} (m : Nat) (l : List (List α)) (hm : ∀ x ∈ l, x.length = m) (k : Nat) (h : k ≤ l.length) : (l.take k).flatten.length = m * k := by
  rw [flatten_len m (l.take k) (fun x hx => hm x (List.mem_of_mem_take hx)), List.length_take, Nat.min_eq_left h]
theorem flat_mono {α β : Type} (f : α → List β) (l : List α) (k : Nat) : ((l.take k).flatMap f).length ≤ (l.flatMap f).length := by
  have e : l.flatMap f = (l.take k).flatMap f ++ (l.drop k).flatMap f := by rw [← List.flatMap_append, List.take_append_drop]
  rw [e, List.length_append]; omega

/-! ### What is owned -/
theorem grown_of_below {w w1 : World} (h : Below w.heap.size w w1) (row : Option Nat) : w.grownBy w1 row := ⟨h.os, h.tape, h.output, h.size, fun i hi _ => h.block i hi⟩
theorem below_of_grown {w w1 : World} (h : w.grownBy w1 none) : Below w.heap.size w w1 := ⟨h.os, h.tape, h.output, h.size, fun i hi => h.block i hi (by simp)⟩
theorem own_below {w w1 : World} {base : Nat} {e : TypeId} {size : Nat} {v : Value} {n : Nat} {xs : List Value} (h : w.ownsRow base e size v n xs) (hb : Below w.heap.size w w1) : w1.ownsRow base e size v n xs :=
  h.kept (grown_of_below hb none) (by cases v.ownBlock <;> simp)
theorem own_base {w : World} {base base' : Nat} {e : TypeId} {size : Nat} {v : Value} {n : Nat} {xs : List Value} (h : w.ownsRow base e size v n xs) (hb : base' ≤ base) : w.ownsRow base' e size v n xs := by
  obtain ⟨hl, h2⟩ := h
  rcases h2 with h2 | ⟨g, cap, cur, rfl, h3, r⟩
  · exact ⟨hl, .inl h2⟩
  · exact ⟨hl, .inr ⟨g, cap, cur, rfl, by omega, r⟩⟩
theorem own_ge {w : World} {base : Nat} {e : TypeId} {size : Nat} {v : Value} {n : Nat} {xs : List Value} (h : w.ownsRow base e size v n xs) (k : Nat) (hk : v.ownBlock = some k) : base ≤ k := (h.lt k hk).1
theorem below_then {B : Nat} {w w1 w2 : World} (h : Below B w w1) (hB : B ≤ w1.heap.size) (k : Below w1.heap.size w1 w2) : Below B w w2 :=
  h.trans (k.mono hB)
theorem below_size {w w1 w2 : World} (h : Below w.heap.size w w1) (k : Below w1.heap.size w1 w2) : Below w.heap.size w w2 := below_then h h.size k

theorem grown_trans {a b c : World} {r : Option Nat} (h : a.grownBy b r) (k : b.grownBy c r) : a.grownBy c r :=
  ⟨k.os.trans h.os, k.tape.trans h.tape, k.output.trans h.output, Nat.le_trans h.size k.size, fun i hi hr => (k.block i (Nat.lt_of_lt_of_le hi h.size) hr).trans (h.block i hi hr)⟩
theorem grown_setCell (w : World) (p o : Nat) (u : Value) : w.grownBy (w.setCell ⟨p, o, none⟩ u) (some p) :=
  ⟨rfl, rfl, rfl, by simp [World.setCell], fun k _ hk => Below.heap_setCell _ _ _ _ (fun e => hk (by rw [e]))⟩
theorem heap_drewN (w : World) (m : Nat) : (w.drewN m).heap = w.heap := by
  induction m with
  | zero => rfl
  | succ m ih => rw [← World.drew_drewN]; exact ih
theorem below_drewN {B : Nat} {a w : World} (h : Below B a w) (m : Nat) : Below B a (w.drewN m) := by
  induction m with
  | zero => exact h
  | succ m ih => rw [← World.drew_drewN]; exact ih.drew
theorem grown_drewN {a b : World} {r : Option Nat} (h : a.grownBy b r) (m : Nat) : a.grownBy (b.drewN m) r := by
  have hb := below_drewN (Below.refl b.heap.size b) m
  exact ⟨hb.os.trans h.os, hb.tape.trans h.tape, hb.output.trans h.output, by rw [heap_drewN]; exact h.size, fun i hi hr => by rw [heap_drewN]; exact h.block i hi hr⟩
/-- Whole numbers and texts: no cell of a Cut's block is of these. -/
def plainV : Value → Bool
  | .int _ _ => true
  | .string _ => true
  | _ => false
theorem bs_plain (xs : List UInt8) : ∀ u ∈ bs xs, plainV u = true := by intro u hu; simp [bs] at hu; obtain ⟨b, _, rfl⟩ := hu; rfl
theorem bs_take (xs : List UInt8) (n : Nat) : bs (xs.take n) = (bs xs).take n := by simp [bs, List.map_take]
theorem bs_drop (xs : List UInt8) (n : Nat) : bs (xs.drop n) = (bs xs).drop n := by simp [bs, List.map_drop]
/-- What is plain does not lie in a block without plain cells. -/
theorem RV.past {w w' : World} {v : Value} {n sz : Nat} {xs : List Value} (h : RV w v n sz xs) {p : Nat} {cs : Array Value} {t : TypeId} {f : Nat × Nat} (hb : w.heap[p]? = some (.cells cs t f))
    (hcs : ∀ (j : Nat) (u : Value), cs[j]? = some u → plainV u = false) (hg : w.grownBy w' (some p)) (hp : ∀ u ∈ xs, plainV u = true) : RV w' v n sz xs :=
  h.keep fun a u hc hu => by
    refine hg.cell hc ?_
    intro e
    have e' : a.block = p := Option.some.inj e
    have hs : a.spot = none := by
      cases hsp : a.spot with
      | none => rfl
      | some _ => simp [World.cell?, e', hb, hsp] at hc
    have : cs[a.off]? = some u := by simpa [World.cell?, e', hb, hs] using hc
    have h1 := hcs _ _ this
    rw [hp u hu] at h1
    exact absurd h1 (by simp)

/-- A text's bytes. -/
def tb (s : ByteArray) : List UInt8 := s.data.toList
theorem tb_length (s : ByteArray) : (tb s).length = s.size := by rw [tb, Array.length_toList]; rfl
/-- A text of these bytes. -/
def st (xs : List UInt8) : ByteArray := ⟨xs.toArray⟩
theorem tb_st (xs : List UInt8) : tb (st xs) = xs := by simp [tb, st]
theorem st_tb (s : ByteArray) : st (tb s) = s := by cases s; simp [tb, st]
theorem st_inj {xs ys : List UInt8} : st xs = st ys ↔ xs = ys := ⟨fun h => by have := congrArg tb h; rwa [tb_st, tb_st] at this, fun h => by rw [h]⟩
theorem st_size (xs : List UInt8) : (st xs).size = xs.length := by show xs.toArray.size = _; simp
theorem st_nums (xs : List UInt8) : strOfNums (xs.map fun b => (b.toNat : Int)) = st xs := by
  have : (strOfNums (xs.map fun b => (b.toNat : Int))).data.toList = xs := by rw [strOfNums_data, List.map_map]; simp [Function.comp_def]
  rw [← st_tb (strOfNums _)]; exact congrArg st this
/-- string(b). -/
theorem conv_rv {P : Program} {w : World} {v : Value} {n : Nat} {xs : List UInt8} (src e dst : TypeId) (hs : P.underlying src = some (.slice e)) (he : P.underlying e = some (.int .u8)) (hd : P.underlying dst = some .string) (h : RV w v n 1 (bs xs)) :
    (convert src dst v).run P w = .ok (.string (st xs)) w := by
  have hn : xs.length = n := by have := h.len; rw [bs_length] at this; omega
  rcases h.parts (by decide) with ⟨rfl, hx, A, c, rfl⟩ | ⟨h0, b, o, c, rfl, _, hc⟩
  · obtain rfl : xs = [] := List.eq_nil_of_length_eq_zero hn
    cases A with
    | none => exact run_convert_bytes_nil w src e hs he 0 c dst hd
    | some ad => simp [convert, run_underlying hs, run_underlying he, run_underlying hd, loadCells, loadCellsFrom, st, Conv.bytesToString]; rfl
  · rw [← st_nums]
    refine run_convert_bytes_arg w src e hs he b o n c (xs.map fun b => (b.toNat : Int)) (by simp [hn]) (fun i hi => ?_) dst hd
    refine hc i _ ?_
    have hi' : i < xs.length := by omega
    simp [bs, hi', List.getD_eq_getElem?_getD]

/-! ### append whose source may be nil or empty -/
theorem wpList_append_rv {P : Program} {w : World} {ops : Array Oper} {rest : List Oper} {o : Oper} {a : Act} {Q : Exit → Act → World → Prop} (s x : Operand) (t : TypeId)
    (base : Nat) (e : TypeId) (z : Value) (size bytes : Nat) (ht : P.underlying t = some (.slice e)) (hinfo : (P.info? e).map (fun i => (i.zero, i.size, i.bytes)) = some (some z, size, bytes))
    {v : Value} {n : Nat} {xs : List Value} (hown : w.ownsRow base e size v n xs) {y : Value} {m : Nat} {news : List Value} (hnews : RV w y m size news) (h1 : ∀ u ∈ news, u.oneCell' = true)
    (hbytes : (n + m) * bytes ≤ 140737488355328) (hbase : base ≤ w.heap.size)
    (hgd : o.guard = none) (ho : o.op = .call { callee := .builtin .append, args := #[s, x], argTypes := #[t, t] }) (hs : a.eval s = v) (hx : a.eval x = y)
    (hzs : z.cells.size = size) (hsz : 0 < size) (hby0 : 0 < bytes)
    (h : ∀ v' w', w'.ownsRow base e size v' (n + m) (xs ++ news) → Below base w w' → w.grownBy w' v.ownBlock → wpList P ops Q rest (a.put o.dst v') w') : wpList P ops Q (o :: rest) a w := by
  have h63 : n + m ≤ maxLen := by
    have : (n + m) * 1 ≤ (n + m) * bytes := Nat.mul_le_mul_left _ hby0
    unfold maxLen; omega
  have hgb : ∀ w', w.grownBy w' v.ownBlock → Below base w w' := fun w' hg => (Below.refl base w).grown hg hbase (fun k hk => own_ge hown k hk)
  obtain ⟨i, hi, hz, hsize, hby⟩ := info_parts hinfo
  obtain ⟨hl, A, c, e1, hc1, hc2, hc3⟩ := hnews
  by_cases h0 : news = []
  · have hm0 : m = 0 := by
      rcases Nat.eq_zero_or_pos m with h | h
      · exact h
      · have := Nat.mul_pos h hsz; rw [h0] at hl; simp at hl; omega
    subst hm0; subst h0
    have hrun : (Builtin.append_ #[t, t] o.type #[v, y]).run P w = .ok v w := by
      rcases hown.2 with ⟨rfl, rfl⟩ | ⟨g, cap, cur, rfl, _, _, hnc, _⟩
      · cases A <;> simp [e1, Builtin.append_, run_underlying ht, sizeOf, typeInfo, hi, Builtin.lenOf, Builtin.firstCells, loadCells, loadCellsFrom]
      · cases A <;> simp [e1, Builtin.append_, run_underlying ht, sizeOf, typeInfo, hi, Builtin.lenOf, Builtin.firstCells, hnc, storeCells, loadCells, loadCellsFrom]
    refine wpList_plain hgd fun K hK => ?_
    unfold Oper.wp
    simp [execOp, ho, resolve, invoke, builtin, hs, hx, hrun, Result.andThen]
    exact hK _ _ (h v w (by simpa using hown) (Below.refl _ _) (World.grownBy.refl _ _))
  · obtain ⟨b, of, rfl, hcc⟩ := hc3 h0
    exact wpList_append_own w hgd s x t ho base e i z size bytes ht hi hz hsize hby hzs hsz v n xs hs hown ⟨b, of, none⟩ m c news (hx.trans e1) hl (fun j u hj => by rw [add_plain]; exact hcc j u hj) h1 h63 hbytes hbase
      fun v' w' h2 h3 _ => h v' w' h2 (hgb _ h3) h3

theorem strCells_eq (s : ByteArray) : Lib.strCells s = bs (tb s) := rfl
/-- append of a text's bytes. -/
theorem wpList_append_str {P : Program} {w : World} {ops : Array Oper} {rest : List Oper} {o : Oper} {a : Act} {Q : Exit → Act → World → Prop} (sl x : Operand) (t u : TypeId)
    (base : Nat) (e : TypeId) (ht : P.underlying t = some (.slice e)) (hu : P.underlying u = some .string) (hinfo : (P.info? e).map (fun i => (i.zero, i.size, i.bytes)) = some (some (.int .u8 0), 1, 1))
    {v : Value} {n : Nat} {xs : List Value} (hown : w.ownsRow base e 1 v n xs) (s : ByteArray)
    (hbytes : n + (tb s).length ≤ 140737488355328) (hbase : base ≤ w.heap.size)
    (hgd : o.guard = none) (ho : o.op = .call { callee := .builtin .append, args := #[sl, x], argTypes := #[t, u] }) (hs : a.eval sl = v) (hx : a.eval x = .string s)
    (h : ∀ v' w', w'.ownsRow base e 1 v' (n + (tb s).length) (xs ++ bs (tb s)) → Below base w w' → w.grownBy w' v.ownBlock → wpList P ops Q rest (a.put o.dst v') w') : wpList P ops Q (o :: rest) a w := by
  obtain ⟨i, hi, hz, hsize, hby⟩ := info_parts hinfo
  rw [tb_length] at hbytes h
  exact Lib.wpList_append_own_string w hgd sl x t u ho base e i ht hu hi hz hsize hby v n xs hs hown s hx (by unfold maxLen; omega) hbytes hbase
    fun v' w' h2 h3 _ => h v' w' h2 ((Below.refl base w).grown h3 hbase (fun k hk => own_ge hown k hk)) h3

/-- append of one element of one cell: it has just been laid into a block of its own. -/
theorem wpList_append_one {P : Program} {w : World} {ops : Array Oper} {rest : List Oper} {o : Oper} {a : Act} {Q : Exit → Act → World → Prop} (s x : Operand) (t : TypeId)
    (base : Nat) (e : TypeId) (z : Value) (bytes : Nat) (ht : P.underlying t = some (.slice e)) (hinfo : (P.info? e).map (fun i => (i.zero, i.size, i.bytes)) = some (some z, 1, bytes))
    {v : Value} {n : Nat} {xs : List Value} (hown : w.ownsRow base e 1 v n xs) (u : Value) (h1 : u.oneCell' = true)
    (hbytes : (n + 1) * bytes ≤ 140737488355328) (hbase : base ≤ w.heap.size)
    (hgd : o.guard = none) (ho : o.op = .call { callee := .builtin .append, args := #[s, x], argTypes := #[t, t] }) (hs : a.eval s = v) (hx : a.eval x = .slice (some ⟨w.heap.size, 0, none⟩) 1 1)
    (hzs : z.cells.size = 1) (hby0 : 0 < bytes)
    (h : ∀ v' w', w'.ownsRow base e 1 v' (n + 1) (xs ++ [u]) → Below base w w' → wpList P ops Q rest (a.put o.dst v') w') : wpList P ops Q (o :: rest) a (w.alloc (.cells #[u] e)) :=
  wpList_append_rv s x t base e z 1 bytes ht hinfo (hown.alloc _) (RV_new w [u] e 1 1 (0, 0) rfl (by decide)) (by intro u' hu'; simp at hu'; subst hu'; exact h1) hbytes (by simp; omega) hgd ho hs hx hzs (by decide) hby0
    fun v' w' h2 h3 _ => h v' w' h2 (((Below.refl base w).alloc hbase _).trans h3)

/-! ### arrays and structs, whole -/
theorem run_loadVar_at {P : Program} (w : World) (b o : Nat) (ty : TypeId) (cs : List Value) (d : TypeDesc) (hc : ∀ j u, cs[j]? = some u → w.cell? ⟨b, o + j, none⟩ = some u)
    (hu : P.underlying ty = some d) (hd : (match d with | .struct _ | .array _ _ => true | _ => false) = true) (hi : (P.info? ty).map (·.size) = some cs.length) :
    (loadVar ty ⟨b, o, none⟩).run P w = .ok (.agg cs.toArray) w := by
  have hl : (loadCells ⟨b, o, none⟩ cs.length).run P w = .ok cs.toArray w :=
    run_loadCells_list (P := P) w ⟨b, o, none⟩ cs (fun j v hv => by rw [add_plain]; exact hc j v hv)
  cases hq : P.info? ty with
  | none => simp [hq] at hi
  | some i =>
    have hs : i.size = cs.length := by simpa [hq] using hi
    have hagg : (isAgg ty).run P w = .ok true w := by
      unfold isAgg
      rw [Sem.run_bind, run_underlying hu w]
      cases d <;> simp_all
    simp [loadVar, Sem.run_bind, hagg, sizeOf, typeInfo, hq, hs, hl]
/-- A whole array, or struct, is loaded. -/
theorem wpList_load_at {P : Program} {w : World} {ops : Array Oper} {rest : List Oper} {op : Oper} {a : Act} {Q : Exit → Act → World → Prop} (ty : TypeId) (x : Operand) (b o : Nat) (cs : List Value) (d : TypeDesc)
    (hc : ∀ j u, cs[j]? = some u → w.cell? ⟨b, o + j, none⟩ = some u) (hu : P.underlying ty = some d) (hd : (match d with | .struct _ | .array _ _ => true | _ => false) = true) (hi : (P.info? ty).map (·.size) = some cs.length)
    (hgd : op.guard = none) (ho : op.op = .load ty x) (hx : a.eval x = .pointer (some ⟨b, o, none⟩))
    (h : wpList P ops Q rest (a.put op.dst (.agg cs.toArray)) w) : wpList P ops Q (op :: rest) a w := by
  refine wpList_plain hgd fun K hK => ?_
  unfold Oper.wp execOp
  simp only [ho, hx, Instr.loadAt, Instr.sureAddr, Sem.run_bind, Sem.run_pure, Result.andThen_ok, run_loadVar_at w b o ty cs d hc hu hd hi]
  exact hK _ _ h
/-- A whole array, or struct, is stored into the block that was made last. -/
theorem wpList_store_new {P : Program} {w : World} {ops : Array Oper} {rest : List Oper} {op : Oper} {a : Act} {Q : Exit → Act → World → Prop} (t : TypeId) (x y : Operand) (c : Array Value) (cs : List Value)
    (hi : (P.info? t).map (·.size) = some cs.length) (hcs : c.size = cs.length) (h1 : ∀ u ∈ cs, u.oneCell' = true)
    (hgd : op.guard = none) (ho : op.op = .store t x y) (hx : a.eval x = .pointer (some ⟨w.heap.size, 0, none⟩)) (hy : a.eval y = .agg cs.toArray)
    (h : wpList P ops Q rest (a.put op.dst undef) (w.alloc (.cells cs.toArray t))) : wpList P ops Q (op :: rest) a (w.alloc (.cells c t)) := by
  refine wpList_plain hgd fun K hK => ?_
  unfold Oper.wp execOp
  simp only [ho, hx, hy, run_storeAt_new w t c cs.toArray (by simpa using hi) (by simpa using hcs) (all_oneCell_toArray h1), Sem.run_bind, Sem.run_pure, Result.andThen_ok]
  exact hK _ _ h
end Go.Proofs.Ythhandkckbnafaa
