/- The walk of (*words).take: what a block makes of the eight words. -/
import Derived.Test.YthhandkckbnafaaZAx
import Derived.Test.YthhandkckbnafaaShaP
import Derived.Test.YthhandkckbnafaaK
import Derived.Test.YthhandkckbnafaaWLast
import Derived.Below
import Derived.Deep.Draws
import Derived.Deep.AppendLies
import Derived.Maps.AppendAt
import Derived.OwnWalk
import Derived.Laws.BytesArg
import Derived.Laws.MakeOwn
import Derived.Laws.OwnMore
import Derived.Deep.OwnRows
import Derived.Tactics
import Derived.Lib.ConvBytes
import Derived.Laws.Slices
import Derived.WalkKit
import Derived.KernelRfl
import Derived.RowKit3
import Derived.Deep.LoopGhost
import Derived.Deep.QuietTactic
import Derived.BigQuiet
import Derived.WideLaws
import Derived.Deep.DeepCutAuto
import Derived.Deep.CutBlock
import Derived.Deep.RegionHeld3
import Derived.Laws.Rows
import Derived.Lib.AppendStr
import Derived.ArgAppend
import Derived.Laws.IdiomCopy
import Derived.OrdersHeld
import Derived.Laws.BitsLemmas
import Derived.RowKit
import Derived.Laws.Cover4
import Derived.Outline
set_option linter.unusedVariables false
set_option linter.unusedSimpArgs false
namespace Go.Proofs.YthhandkckbnafaaZ.ZA
open Go.RowKit Go.Proofs.YthhandkckbnafaaW.PrintWords Go.Proofs.YthhandkckbnafaaW.PrintLast Go.Proofs.YthhandkckbnafaaW.PrintMore
attribute [local go_sem] max2_int min2_int max_two min_two max_three min_three max_four min_four   -- for this text's walks alone
section
open Go.Proofs.Ythhandkckbnafaa hiding below_then below_size hid hidden add_plain
def kN : List Nat := [0x428a2f98, 0x71374491, 0xb5c0fbcf, 0xe9b5dba5, 0x3956c25b, 0x59f111f1, 0x923f82a4, 0xab1c5ed5,
  0xd807aa98, 0x12835b01, 0x243185be, 0x550c7dc3, 0x72be5d74, 0x80deb1fe, 0x9bdc06a7, 0xc19bf174,
  0xe49b69c1, 0xefbe4786, 0x0fc19dc6, 0x240ca1cc, 0x2de92c6f, 0x4a7484aa, 0x5cb0a9dc, 0x76f988da,
  0x983e5152, 0xa831c66d, 0xb00327c8, 0xbf597fc7, 0xc6e00bf3, 0xd5a79147, 0x06ca6351, 0x14292967,
  0x27b70a85, 0x2e1b2138, 0x4d2c6dfc, 0x53380d13, 0x650a7354, 0x766a0abb, 0x81c2c92e, 0x92722c85,
  0xa2bfe8a1, 0xa81a664b, 0xc24b8b70, 0xc76c51a3, 0xd192e819, 0xd6990624, 0xf40e3585, 0x106aa070,
  0x19a4c116, 0x1e376c08, 0x2748774c, 0x34b0bcb5, 0x391c0cb3, 0x4ed8aa4a, 0x5b9cca4f, 0x682e6ff3,
  0x748f82ee, 0x78a5636f, 0x84c87814, 0x8cc70208, 0x90befffa, 0xa4506ceb, 0xbef9a3f7, 0xc67178f2]
def kV : Array Value := (kN.map fun (x : Nat) => Value.int .u32 (x : Int)).toArray
theorem kV_at (k : Nat) (h : k < 64) : kV[k]? = some (.int .u32 ((kN.getD k 0 : Nat) : Int)) := by
  have hl : k < kN.length := h
  unfold kV
  rw [List.getElem?_toArray, List.getElem?_map, List.getElem?_eq_getElem hl, List.getD, List.getElem?_eq_getElem hl]
  rfl
theorem size64 : (Try.prog.info? 71).map (·.size) = some 64 := by kernel_rfl
set_option maxHeartbeats 4000000 in
set_option maxRecDepth 100000 in
theorem rounds_calls (w : World) : Calls Try.prog 42 #[] w fun e w' => e = .returned (.agg kV) ∧ Below w.heap.size w w' := by
  go_enter Try.func42, Try.ntmps42
  have hb := (Below.refl w.heap.size w).alloc (Nat.le_refl _) (.cells kV 71)
  have hg := heap_alloc_new w (.cells kV 71)
  have hs : (Try.prog.info? 71).map (·.size) = some kV.size := size64
  have h1 : kV.all (·.oneCell') = true := all_oneCell_toArray (fun v hv => by obtain ⟨x, _, rfl⟩ := List.mem_map.1 hv; rfl)
  go_wp2_with (refine wpList_store_row rfl 71 (.tmp 0) (.tmp 1) rfl w.heap.size kV rfl (by rfl) 71 _ (heap_alloc_new w _) hs (by rfl) h1 ?_; rw [World.setRow_alloc_new])
  refine bodyPost_ret (v := .agg kV) (results_cell_row (p := 0) (ty := 71) rfl _ _ w.heap.size 71 kV (0, 0) _ rfl hg Try.underlying71 rfl hs) rfl ⟨rfl, hb⟩
def u32s (l : List Nat) : List Value := l.map fun (x : Nat) => .int .u32 (x : Int)
/-- The schedule's first words are the block's. -/
def wInit (b : List UInt8) (i : Nat) : Nat := (((b.getD (4 * i) 0).toNat * 16777216 ||| (b.getD (4 * i + 1) 0).toNat * 65536) ||| (b.getD (4 * i + 2) 0).toNat * 256) ||| (b.getD (4 * i + 3) 0).toNat
def wNext (L : List Nat) (i : Nat) : Nat :=
  (((L.getD (i - 16) 0 + L.getD (i - 7) 0) % 4294967296 + ((rot (L.getD (i - 15) 0) 7 ^^^ rot (L.getD (i - 15) 0) 18) ^^^ L.getD (i - 15) 0 / 8)) % 4294967296 + ((rot (L.getD (i - 2) 0) 17 ^^^ rot (L.getD (i - 2) 0) 19) ^^^ L.getD (i - 2) 0 / 1024)) % 4294967296
def sched (b : List UInt8) : Nat → List Nat
  | 0 => []
  | i + 1 => sched b i ++ [if i < 16 then wInit b i else wNext (sched b i) i]
theorem sched_length (b : List UInt8) (n : Nat) : (sched b n).length = n := by induction n with | zero => rfl | succ n ih => simp [sched, ih]
def row64 (b : List UInt8) (k : Nat) : Array Value := (u32s (sched b k) ++ List.replicate (64 - k) (Value.int .u32 0)).toArray
theorem row64_size (b : List UInt8) (k : Nat) (h : k ≤ 64) : (row64 b k).size = 64 := by simp [row64, u32s, sched_length]; omega
theorem row_step (B : List UInt8) (k v : Nat) (h : k < 64) (hv : sched B (k + 1) = sched B k ++ [v]) : (row64 B k).setIfInBounds k (.int .u32 (v : Int)) = row64 B (k + 1) := by
  unfold row64
  rw [hv, List.setIfInBounds_toArray]
  congr 1
  have hl : (u32s (sched B k)).length = k := by rw [u32s, List.length_map, sched_length]
  have e : u32s (sched B k ++ [v]) = u32s (sched B k) ++ [.int .u32 (v : Int)] := by simp [u32s]
  rw [e, show 64 - k = (64 - (k + 1)) + 1 by omega, List.replicate_succ, List.set_append_right _ _ (by omega), hl, Nat.sub_self, List.set_cons_zero, List.append_assoc]
  rfl
theorem or4 (x0 x1 x2 x3 : Nat) (h0 : x0 < 256) (h1 : x1 < 256) (h2 : x2 < 256) (h3 : x3 < 256) :
    Go.bits .or .u32 (Go.bits .or .u32 (Go.bits .or .u32 ((x0 : Int) * 16777216) ((x1 : Int) * 65536)) ((x2 : Int) * 256)) (x3 : Int) = ((((x0 * 16777216 ||| x1 * 65536) ||| x2 * 256) ||| x3 : Nat) : Int) := by
  have e0 : (x0 : Int) * 16777216 = ((x0 * 16777216 : Nat) : Int) := by omega
  have e1 : (x1 : Int) * 65536 = ((x1 * 65536 : Nat) : Int) := by omega
  have e2 : (x2 : Int) * 256 = ((x2 * 256 : Nat) : Int) := by omega
  have b1 : x0 * 16777216 ||| x1 * 65536 < 4294967296 := Nat.or_lt_two_pow (n := 32) (by omega) (by omega)
  have b2 : (x0 * 16777216 ||| x1 * 65536) ||| x2 * 256 < 4294967296 := Nat.or_lt_two_pow (n := 32) b1 (by omega)
  rw [e0, e1, e2, u32_or_nat _ _ (by omega) (by omega), u32_or_nat _ _ b1 (by omega), u32_or_nat _ _ b2 (by omega)]
theorem wInit_lt (B : List UInt8) (i : Nat) : wInit B i < 4294967296 := by
  have h0 := (B.getD (4 * i) 0).toNat_lt
  have h1 := (B.getD (4 * i + 1) 0).toNat_lt
  have h2 := (B.getD (4 * i + 2) 0).toNat_lt
  have h3 := (B.getD (4 * i + 3) 0).toNat_lt
  unfold wInit
  exact Nat.or_lt_two_pow (n := 32) (Nat.or_lt_two_pow (Nat.or_lt_two_pow (by omega) (by omega)) (by omega)) (by omega)
theorem sched_lt (B : List UInt8) (k j : Nat) : (sched B k).getD j 0 < 4294967296 := by
  induction k with
  | zero => simp [sched]
  | succ k ih =>
    unfold sched
    by_cases h : j < k
    · rw [List.getD, List.getElem?_append_left (by rw [sched_length]; exact h)]
      exact ih
    · rw [List.getD, List.getElem?_append_right (by rw [sched_length]; omega), sched_length]
      rcases Nat.eq_or_lt_of_le (Nat.not_lt.1 h) with h2 | h2
      · subst h2
        simp only [Nat.sub_self, List.getElem?_cons_zero, Option.getD_some]
        split
        · exact wInit_lt _ _
        · exact Nat.mod_lt _ (by decide)
      · rw [List.getElem?_eq_none (by simp; omega)]
        simp
def Know (w W : World) (B : List UInt8) (k : Nat) : Prop := W.heap[w.heap.size]? = some (.cells (row64 B k) 71 (0, 0)) ∧ Below w.heap.size w W
theorem Know.cell {w W : World} {B : List UInt8} {k : Nat} (h : Know w W B k) (j : Nat) (hj : j < k) (y : Nat) (hy : (sched B k).getD j 0 = y) : W.cell? ⟨w.heap.size, j, none⟩ = some (.int .u32 (y : Int)) := by
  refine (blk_cell h.1 j).trans ?_
  have hl : j < (sched B k).length := by rw [sched_length]; exact hj
  unfold row64 u32s
  rw [List.getElem?_toArray, List.getElem?_append_left (by rw [List.length_map]; exact hl), List.getElem?_map, List.getElem?_eq_getElem hl]
  rw [List.getD, List.getElem?_eq_getElem hl] at hy
  rw [← hy]
  rfl
theorem Know.spare {w W : World} {B : List UInt8} {k : Nat} (h : Know w W B k) (hk : k < 64) : W.cell? ⟨w.heap.size, k, none⟩ = some (.int .u32 0) := by
  refine (blk_cell h.1 k).trans ?_
  unfold row64 u32s
  rw [List.getElem?_toArray, List.getElem?_append_right (by rw [List.length_map, sched_length]; exact Nat.le_refl _), List.length_map, sched_length, Nat.sub_self, List.getElem?_replicate, if_pos (by omega)]
theorem Know.alloc {w W : World} {B : List UInt8} {k : Nat} (h : Know w W B k) (o : Obj) : Know w (W.alloc o) B k := ⟨blk_alloc h.1 o, h.2.alloc h.2.size o⟩
theorem Know.below {w W W' : World} {B : List UInt8} {k : Nat} (h : Know w W B k) (hb : Below W.heap.size W W') : Know w W' B k := ⟨blk_below h.1 hb, Go.Proofs.Ythhandkckbnafaa.below_size h.2 hb⟩
theorem lit2 (W : World) (x y : Int) (e : TypeId) : Kd.C (Kd.int .i64) (W.alloc (.cells #[.int .i64 x, .int .i64 y] e)) (some ⟨W.heap.size, 0, none⟩) 2 [x, y] := by
  refine ⟨rfl, by decide, fun _ => ⟨_, rfl, fun j p hj => ⟨[.int .i64 p], rfl, rfl, fun i u hu => ?_⟩⟩⟩
  have hi : i = 0 := by have := (List.getElem?_eq_some_iff.1 hu).1; simp at this; exact this
  subst hi
  obtain rfl : Value.int .i64 p = u := by simpa using hu
  have hc := blk_cell (heap_alloc_new W (.cells #[.int .i64 x, .int .i64 y] e)) j
  rw [Go.Proofs.Ythhandkckbnafaa.add_plain, Nat.add_zero, show j * (Kd.int IntKind.i64).sz = j from Nat.mul_one j, Nat.zero_add]
  refine hc.trans ?_
  match j, hj with
  | 0, h => simp at h; subst h; rfl
  | 1, h => simp at h; subst h; rfl
  | j + 2, h => simp at h
theorem lit3 (W : World) (x y z : Int) (e : TypeId) : Kd.C (Kd.int .i64) (W.alloc (.cells #[.int .i64 x, .int .i64 y, .int .i64 z] e)) (some ⟨W.heap.size, 0, none⟩) 3 [x, y, z] := by
  refine ⟨rfl, by decide, fun _ => ⟨_, rfl, fun j p hj => ⟨[.int .i64 p], rfl, rfl, fun i u hu => ?_⟩⟩⟩
  have hi : i = 0 := by have := (List.getElem?_eq_some_iff.1 hu).1; simp at this; exact this
  subst hi
  obtain rfl : Value.int .i64 p = u := by simpa using hu
  have hc := blk_cell (heap_alloc_new W (.cells #[.int .i64 x, .int .i64 y, .int .i64 z] e)) j
  rw [Go.Proofs.Ythhandkckbnafaa.add_plain, Nat.add_zero, show j * (Kd.int IntKind.i64).sz = j from Nat.mul_one j, Nat.zero_add]
  refine hc.trans ?_
  match j, hj with
  | 0, h => simp at h; subst h; rfl
  | 1, h => simp at h; subst h; rfl
  | 2, h => simp at h; subst h; rfl
  | j + 3, h => simp at h
theorem index_u32 (A : Array Value) (k : Nat) (v : Int) (hk : k < 64) (hA : A[k]? = some (.int .u32 v)) (w : World) : Sem.run Try.prog (Instr.index 71 (.agg A) (.int .i64 (k : Int))) w = .ok (.int .u32 v) w := by
  have h0 : (0 : Int) ≤ (k : Int) := by omega
  have h1 : (k : Int) < 64 := by omega
  unfold Instr.index
  go_simp
/-- One round on the eight words. -/
def tN (e f g h kc wv : Nat) : Nat := (h + (rot e 6 ^^^ rot e 11 ^^^ rot e 25) + ((e &&& f) ^^^ ((4294967295 ^^^ e) &&& g)) + kc + wv) % 4294967296
def uN (a b c : Nat) : Nat := ((rot a 2 ^^^ rot a 13 ^^^ rot a 22) + (((a &&& b) ^^^ (a &&& c)) ^^^ (b &&& c))) % 4294967296
def stepL (X : List Nat) (kc wv : Nat) : List Nat := match X with
  | [a, b, c, d, e, f, g, h] => [(tN e f g h kc wv + uN a b c) % 4294967296, a, b, c, (d + tN e f g h kc wv) % 4294967296, e, f, g]
  | _ => X
theorem stepL_eq (a b c d e f g h kc wv : Nat) : stepL [a, b, c, d, e, f, g, h] kc wv = [(tN e f g h kc wv + uN a b c) % 4294967296, a, b, c, (d + tN e f g h kc wv) % 4294967296, e, f, g] := rfl
theorem step_arr (a b c d e f g t u : Nat) :
    (#[.int .u32 (((t : Int) + (u : Int)) % 4294967296), .int .u32 (a : Int), .int .u32 (b : Int), .int .u32 (c : Int), .int .u32 (((d : Int) + (t : Int)) % 4294967296), .int .u32 (e : Int), .int .u32 (f : Int), .int .u32 (g : Int)] : Array Value) =
      (u32s [(t + u) % 4294967296, a, b, c, (d + t) % 4294967296, e, f, g]).toArray := by
  have e1 : ((t : Int) + (u : Int)) % 4294967296 = (((t + u) % 4294967296 : Nat) : Int) := by omega
  have e2 : ((d : Int) + (t : Int)) % 4294967296 = (((d + t) % 4294967296 : Nat) : Int) := by omega
  rw [e1, e2]
  rfl
theorem ch_val (e f g : Nat) (he : e < 4294967296) (hf : f < 4294967296) (hg : g < 4294967296) :
    Go.bits .xor .u32 (Go.bits .and .u32 (e : Int) (f : Int)) (Go.bits .and .u32 (Go.bits .xor .u32 IntKind.u32.max (e : Int)) (g : Int)) = (((e &&& f) ^^^ ((4294967295 ^^^ e) &&& g) : Nat) : Int) := by
  have hm : IntKind.u32.max = ((4294967295 : Nat) : Int) := by decide
  have h1 : e &&& f < 4294967296 := Nat.lt_of_le_of_lt Nat.and_le_left he
  have h2 : 4294967295 ^^^ e < 4294967296 := Nat.xor_lt_two_pow (n := 32) (by decide) he
  have h3 : (4294967295 ^^^ e) &&& g < 4294967296 := Nat.lt_of_le_of_lt Nat.and_le_left h2
  rw [hm, u32_and_nat _ _ he hf, u32_xor_nat _ _ (by decide) he, u32_and_nat _ _ h2 hg, u32_xor_nat _ _ h1 h3]
theorem maj_val (a b c : Nat) (ha : a < 4294967296) (hb : b < 4294967296) (hc : c < 4294967296) :
    Go.bits .xor .u32 (Go.bits .xor .u32 (Go.bits .and .u32 (a : Int) (b : Int)) (Go.bits .and .u32 (a : Int) (c : Int))) (Go.bits .and .u32 (b : Int) (c : Int)) = ((((a &&& b) ^^^ (a &&& c)) ^^^ (b &&& c) : Nat) : Int) := by
  have h1 : a &&& b < 4294967296 := Nat.lt_of_le_of_lt Nat.and_le_left ha
  have h2 : a &&& c < 4294967296 := Nat.lt_of_le_of_lt Nat.and_le_left ha
  have h3 : b &&& c < 4294967296 := Nat.lt_of_le_of_lt Nat.and_le_left hb
  rw [u32_and_nat _ _ ha hb, u32_and_nat _ _ ha hc, u32_and_nat _ _ hb hc, u32_xor_nat _ _ h1 h2, u32_xor_nat _ _ (Nat.xor_lt_two_pow (n := 32) h1 h2) h3]
theorem t_val (e f g h kc wv : Nat) (he : e < 4294967296) (hf : f < 4294967296) (hg : g < 4294967296) :
    IntKind.u32.wrap (IntKind.u32.wrap (IntKind.u32.wrap (IntKind.u32.wrap ((h : Int) + ((rot e 6 ^^^ rot e 11 ^^^ rot e 25 : Nat) : Int)) +
      Go.bits .xor .u32 (Go.bits .and .u32 (e : Int) (f : Int)) (Go.bits .and .u32 (Go.bits .xor .u32 IntKind.u32.max (e : Int)) (g : Int))) + (kc : Int)) + (wv : Int)) = ((tN e f g h kc wv : Nat) : Int) := by
  rw [ch_val e f g he hf hg]
  unfold tN
  simp only [IntKind.wrap_u32']
  generalize (e &&& f) ^^^ ((4294967295 ^^^ e) &&& g) = P
  generalize rot e 6 ^^^ rot e 11 ^^^ rot e 25 = Q
  omega
theorem u_val (a b c : Nat) (ha : a < 4294967296) (hb : b < 4294967296) (hc : c < 4294967296) :
    IntKind.u32.wrap (((rot a 2 ^^^ rot a 13 ^^^ rot a 22 : Nat) : Int) + Go.bits .xor .u32 (Go.bits .xor .u32 (Go.bits .and .u32 (a : Int) (b : Int)) (Go.bits .and .u32 (a : Int) (c : Int))) (Go.bits .and .u32 (b : Int) (c : Int))) = ((uN a b c : Nat) : Int) := by
  rw [maj_val a b c ha hb hc]
  unfold uN
  simp only [IntKind.wrap_u32']
  generalize ((a &&& b) ^^^ (a &&& c)) ^^^ (b &&& c) = P
  generalize rot a 2 ^^^ rot a 13 ^^^ rot a 22 = Q
  omega
def comp (H : List Nat) (B : List UInt8) : Nat → List Nat
  | 0 => H
  | i + 1 => stepL (comp H B i) (kN.getD i 0) ((sched B 64).getD i 0)
def Eight (X : List Nat) : Prop := ∃ a b c d e f g h, X = [a, b, c, d, e, f, g, h] ∧ a < 4294967296 ∧ b < 4294967296 ∧ c < 4294967296 ∧ d < 4294967296 ∧ e < 4294967296 ∧ f < 4294967296 ∧ g < 4294967296 ∧ h < 4294967296
theorem comp_eight (H : List Nat) (B : List UInt8) (hH : Eight H) (k : Nat) : Eight (comp H B k) := by
  induction k with
  | zero => exact hH
  | succ k ih =>
    obtain ⟨a, b, c, d, e, f, g, h, hX, h1, h2, h3, h4, h5, h6, h7, h8⟩ := ih
    refine ⟨_, _, _, _, _, _, _, _, by show stepL (comp H B k) _ _ = _; rw [hX]; rfl, Nat.mod_lt _ (by decide), h1, h2, h3, Nat.mod_lt _ (by decide), h5, h6, h7⟩
/-- What is held in the rounds: the eight words, the schedule, all else below. -/
def KnowX (w W : World) (gx : Nat) (B : List UInt8) (X : List Nat) : Prop := W.heap[gx]? = some (.cells (u32s X).toArray 36 (0, 0)) ∧ W.heap[w.heap.size]? = some (.cells (row64 B 64) 71 (0, 0)) ∧ Below w.heap.size w W
theorem KnowX.alloc {w W : World} {gx : Nat} {B : List UInt8} {X : List Nat} (h : KnowX w W gx B X) (o : Obj) : KnowX w (W.alloc o) gx B X := ⟨blk_alloc h.1 o, blk_alloc h.2.1 o, h.2.2.alloc h.2.2.size o⟩
theorem KnowX.below {w W W' : World} {gx : Nat} {B : List UInt8} {X : List Nat} (h : KnowX w W gx B X) (hb : Below W.heap.size W W') : KnowX w W' gx B X := ⟨blk_below h.1 hb, blk_below h.2.1 hb, Go.Proofs.Ythhandkckbnafaa.below_size h.2.2 hb⟩
theorem KnowX.drew {w W : World} {gx : Nat} {B : List UInt8} {X : List Nat} (h : KnowX w W gx B X) : KnowX w W.drew gx B X := ⟨h.1, h.2.1, h.2.2.drew⟩
theorem KnowX.set {w W : World} {gx : Nat} {B : List UInt8} {X Y : List Nat} (h : KnowX w W gx B X) (hsz : w.heap.size < gx) {arr : Array Value} (ha : arr = (u32s Y).toArray) : KnowX w (W.setRow gx arr) gx B Y := by
  have hg : W.grownBy (W.setRow gx arr) (some gx) := ⟨rfl, rfl, rfl, by simp, fun k _ hk => setRow_other W _ _ _ (fun e => hk (by rw [e]))⟩
  refine ⟨by rw [← ha]; exact setRow_heap W gx _ arr _ _ h.1, ?_, h.2.2.grown hg h.2.2.size (fun k e => by cases e; omega)⟩
  rw [hg.block _ (blk_lt h.2.1) (by simp; omega)]
  exact h.2.1
theorem KnowX.word {w W : World} {gx : Nat} {B : List UInt8} {X : List Nat} (h : KnowX w W gx B X) {k y : Nat} (hk : k < 64) (hy : (sched B 64).getD k 0 = y) : W.cell? ⟨w.heap.size, k, none⟩ = some (.int .u32 (y : Int)) :=
  Know.cell (B := B) (k := 64) ⟨h.2.1, h.2.2⟩ k hk y hy
theorem turns_calls2 (x : Int) (A : Option Addr) (a b r : Int) (w : World) (hr : Kd.C (Kd.int .i64) w A 2 [a, b]) (h : sha_turns.f 5 x [a, b] = some r) :
    Calls Try.prog 41 #[.int .u32 x, .slice A 2 2] w fun e w' => e = .returned (.int .u32 r) ∧ Drawn0 w w' := sha_turns.calls 5 x A 2 [a, b] r w hr (Nat.le_refl 2) h
theorem turns_calls3 (x : Int) (A : Option Addr) (a b c r : Int) (w : World) (hr : Kd.C (Kd.int .i64) w A 3 [a, b, c]) (h : sha_turns.f 5 x [a, b, c] = some r) :
    Calls Try.prog 41 #[.int .u32 x, .slice A 3 3] w fun e w' => e = .returned (.int .u32 r) ∧ Drawn0 w w' := sha_turns.calls 5 x A 3 [a, b, c] r w hr (Nat.le_refl 3) h
theorem next_val (y16 y7 y15 y2 : Nat) (h15 : y15 < 4294967296) (h2 : y2 < 4294967296) :
    ((((y16 : Int) + (y7 : Int)) % 4294967296 + Go.bits .xor .u32 ((rot y15 7 ^^^ rot y15 18 : Nat) : Int) ((y15 : Int) / 8)) % 4294967296 + Go.bits .xor .u32 ((rot y2 17 ^^^ rot y2 19 : Nat) : Int) ((y2 : Int) / 1024)) % 4294967296 =
      (((((y16 + y7) % 4294967296 + ((rot y15 7 ^^^ rot y15 18) ^^^ y15 / 8)) % 4294967296 + ((rot y2 17 ^^^ rot y2 19) ^^^ y2 / 1024)) % 4294967296 : Nat) : Int) := by
  have a1 : rot y15 7 ^^^ rot y15 18 < 4294967296 := Nat.xor_lt_two_pow (n := 32) (rot_lt _ _ h15 (by decide) (by decide)) (rot_lt _ _ h15 (by decide) (by decide))
  have a2 : rot y2 17 ^^^ rot y2 19 < 4294967296 := Nat.xor_lt_two_pow (n := 32) (rot_lt _ _ h2 (by decide) (by decide)) (rot_lt _ _ h2 (by decide) (by decide))
  have e1 : (y15 : Int) / 8 = ((y15 / 8 : Nat) : Int) := by simp
  have e2 : (y2 : Int) / 1024 = ((y2 / 1024 : Nat) : Int) := by simp
  rw [e1, e2, u32_xor_nat _ _ a1 (by omega), u32_xor_nat _ _ a2 (by omega)]
  generalize (rot y15 7 ^^^ rot y15 18) ^^^ y15 / 8 = P
  generalize (rot y2 17 ^^^ rot y2 19) ^^^ y2 / 1024 = Q
  omega
/-- The sums with the words as they were: the first k of them. -/
def addL (H X : List Nat) : Nat → List Nat
  | 0 => H
  | k + 1 => (addL H X k).set k ((H.getD k 0 + X.getD k 0) % 4294967296)
theorem addL_length (H X : List Nat) (k : Nat) : (addL H X k).length = H.length := by induction k with | zero => rfl | succ k ih => simp [addL, ih]
theorem addL_at (H X : List Nat) (k j : Nat) (h : k ≤ j) : (addL H X k).getD j 0 = H.getD j 0 := by
  induction k with
  | zero => rfl
  | succ k ih =>
    have h2 := ih (by omega)
    rw [List.getD] at h2 ⊢
    unfold addL
    rw [List.getElem?_set_ne (by omega)]
    exact h2
theorem addL_put (L : List Nat) (tl : List Value) (k x y : Nat) (h : k < L.length) : (u32s L ++ tl).toArray.setIfInBounds k (.int .u32 (((y : Int) + (x : Int)) % 4294967296)) = (u32s (L.set k ((y + x) % 4294967296)) ++ tl).toArray := by
  have e1 : ((y : Int) + (x : Int)) % 4294967296 = (((y + x) % 4294967296 : Nat) : Int) := by omega
  rw [e1, List.setIfInBounds_toArray, List.set_append_left _ _ (by unfold u32s; rw [List.length_map]; exact h)]
  unfold u32s
  rw [List.map_set]
/-- The words behind a block. -/
def nextH (H : List Nat) (B : List UInt8) : List Nat := addL H (comp H B 64) 8
theorem u32s_at (L : List Nat) (tl : List Value) (k : Nat) (h : k < L.length) : (u32s L ++ tl).toArray[k]? = some (.int .u32 ((L.getD k 0 : Nat) : Int)) := by
  rw [List.getElem?_toArray, List.getElem?_append_left (by unfold u32s; rw [List.length_map]; exact h)]
  unfold u32s
  rw [List.getElem?_map, List.getElem?_eq_getElem h, List.getD, List.getElem?_eq_getElem h]
  rfl
def Know3 (w W : World) (g gx : Nat) (X L : List Nat) (tl : List Value) (tg : TypeId) : Prop := W.heap[gx]? = some (.cells (u32s X).toArray 36 (0, 0)) ∧ W.heap[g]? = some (.cells (u32s L ++ tl).toArray tg (0, 0)) ∧ w.grownBy W (some g)
theorem Know3.drew {w W : World} {g gx : Nat} {X L : List Nat} {tl : List Value} {tg : TypeId} (h : Know3 w W g gx X L tl tg) : Know3 w W.drew g gx X L tl tg := ⟨h.1, h.2.1, ⟨h.2.2.os, h.2.2.tape, h.2.2.output, h.2.2.size, h.2.2.block⟩⟩
theorem Know3.put {w W : World} {g gx : Nat} {X L : List Nat} {tl : List Value} {tg : TypeId} (h : Know3 w W g gx X L tl tg) (hne : gx ≠ g) (k x y : Nat) (hk : k < L.length) : Know3 w (W.setCell ⟨g, k, none⟩ (.int .u32 (((y : Int) + (x : Int)) % 4294967296))) g gx X (L.set k ((y + x) % 4294967296)) tl tg := by
  refine ⟨blk_far h.1 hne _, blk_put h.2.1 k _ (addL_put L tl k x y hk), ⟨h.2.2.os, h.2.2.tape, h.2.2.output, ?_, fun j hj hn => ?_⟩⟩
  · simpa [World.setCell] using h.2.2.size
  · refine (Below.heap_setCell W ⟨g, k, none⟩ _ j (fun e => hn ?_)).trans (h.2.2.block j hj hn)
    exact congrArg some e
set_option maxHeartbeats 8000000 in
set_option maxRecDepth 100000 in
theorem take_calls (g bb bo c : Nat) (B : List UInt8) (w : World) (hB : B.length = 64) (hr : RV w (.slice (some ⟨bb, bo, none⟩) 64 c) 64 1 (bs B)) (tl : List Value) (tg : TypeId)
    (h0 h1 h2 h3 h4 h5 h6 h7 : Nat) (hH : Eight [h0, h1, h2, h3, h4, h5, h6, h7]) (hg : w.heap[g]? = some (.cells (u32s [h0, h1, h2, h3, h4, h5, h6, h7] ++ tl).toArray tg (0, 0))) :
    Calls Try.prog 31 #[.pointer (some ⟨g, 0, none⟩), .slice (some ⟨bb, bo, none⟩) 64 c] w fun e w' => e = .returned (.tuple #[]) ∧ w'.heap[g]? = some (.cells (u32s (nextH [h0, h1, h2, h3, h4, h5, h6, h7] B) ++ tl).toArray tg (0, 0)) ∧ w.grownBy w' (some g) := by
  obtain ⟨gcs, hgcs⟩ : ∃ z, (u32s [h0, h1, h2, h3, h4, h5, h6, h7] ++ tl).toArray = z := ⟨_, rfl⟩
  have hgc : ∀ (j : Nat) (v : Value), (u32s [h0, h1, h2, h3, h4, h5, h6, h7])[j]? = some v → gcs[j]? = some v := fun j v hv => by
    rw [← hgcs, List.getElem?_toArray, List.getElem?_append_left (List.getElem?_eq_some_iff.1 hv).1]; exact hv
  rw [hgcs] at hg
  have AG := Aside0.mk hgcs
  clear hgcs
  go_enter Try.func31, Try.ntmps31
  go_wp2_with fail
  go_loopw [14] (fun s14 wr => ∃ k : Nat, k ≤ 64 ∧ s14 = .int .i64 (k : Int) ∧ wr.heap[w.heap.size]? = some (.cells (row64 B k) 71 (0, 0)) ∧ Below w.heap.size w wr) (fun s14 _ => 64 - (intOf s14).toNat)
  case atStart => exact ⟨0, Nat.zero_le _, rfl, (heap_alloc_new w _).trans rfl, (Below.refl _ _).alloc (Nat.le_refl _) _⟩
  case round =>
    obtain ⟨k, hk, rfl, hrow, hbe⟩ := hrel
    by_cases hlt : k < 64
    · by_cases h16 : k < 16
      · obtain ⟨b0, o0, u0, e0, hu0, hc0, _⟩ := hr.at_ (4 * k) (by omega)
        obtain ⟨b1, o1, u1, e1, hu1, hc1, _⟩ := hr.at_ (4 * k + 1) (by omega)
        obtain ⟨b2, o2, u2, e2, hu2, hc2, _⟩ := hr.at_ (4 * k + 2) (by omega)
        obtain ⟨b3, o3, u3, e3, hu3, hc3, _⟩ := hr.at_ (4 * k + 3) (by omega)
        simp only [Option.some.injEq, Addr.mk.injEq, and_true] at e0 e1 e2 e3
        obtain ⟨rfl, rfl⟩ := e0
        obtain ⟨rfl, rfl⟩ := e1
        obtain ⟨rfl, rfl⟩ := e2
        obtain ⟨rfl, rfl⟩ := e3
        have hl4 : ∀ j, j < 64 → (bs B)[j]? = some (.int .u8 ((B.getD j 0).toNat : Int)) := fun j hj => by
          unfold bs; rw [List.getElem?_map, List.getD, List.getElem?_eq_getElem (by omega : j < B.length)]; rfl
        obtain rfl := Option.some.inj (hu0.symm.trans (hl4 _ (by omega)))
        obtain rfl := Option.some.inj (hu1.symm.trans (hl4 _ (by omega)))
        obtain rfl := Option.some.inj (hu2.symm.trans (hl4 _ (by omega)))
        obtain rfl := Option.some.inj (hu3.symm.trans (hl4 _ (by omega)))
        have hlt0 := (B.getD (4 * k) 0).toNat_lt
        have hlt1 := (B.getD (4 * k + 1) 0).toNat_lt
        have hlt2 := (B.getD (4 * k + 2) 0).toNat_lt
        have hlt3 := (B.getD (4 * k + 3) 0).toNat_lt
        have hwi : wInit B k = wInit B k := rfl
        unfold wInit at hwi
        obtain ⟨x0, hx0⟩ : ∃ x, (B.getD (4 * k) 0).toNat = x := ⟨_, rfl⟩
        obtain ⟨x1, hx1⟩ : ∃ x, (B.getD (4 * k + 1) 0).toNat = x := ⟨_, rfl⟩
        obtain ⟨x2, hx2⟩ : ∃ x, (B.getD (4 * k + 2) 0).toNat = x := ⟨_, rfl⟩
        obtain ⟨x3, hx3⟩ : ∃ x, (B.getD (4 * k + 3) 0).toNat = x := ⟨_, rfl⟩
        rw [hx0] at hc0 hlt0
        rw [hx1] at hc1 hlt1
        rw [hx2] at hc2 hlt2
        rw [hx3] at hc3 hlt3
        have hd0 := (hbe.cell (World.block_lt_of_cell? _ _ hc0)).trans hc0
        have hd1 := (hbe.cell (World.block_lt_of_cell? _ _ hc1)).trans hc1
        have hd2 := (hbe.cell (World.block_lt_of_cell? _ _ hc2)).trans hc2
        have hd3 := (hbe.cell (World.block_lt_of_cell? _ _ hc3)).trans hc3
        clear hwi
        have hn0 : (4 * (k : Int)).toNat = 4 * k := by omega
        have hn1 : (4 * (k : Int) + 1).toNat = 4 * k + 1 := by omega
        have hn2 : (4 * (k : Int) + 2).toNat = 4 * k + 2 := by omega
        have hn3 : (4 * (k : Int) + 3).toNat = 4 * k + 3 := by omega
        have hm0 : (0 : Int) ≤ 4 * (k : Int) ∧ 4 * (k : Int) < 64 ∧ (0 : Int) ≤ 4 * (k : Int) + 1 ∧ 4 * (k : Int) + 1 < 64 ∧ (0 : Int) ≤ 4 * (k : Int) + 2 ∧ 4 * (k : Int) + 2 < 64 ∧ (0 : Int) ≤ 4 * (k : Int) + 3 ∧ 4 * (k : Int) + 3 < 64 := by omega
        obtain ⟨g1, g2, g3, g4, g5, g6, g7, g8⟩ := hm0
        have hst : wr.cell? ⟨w.heap.size, k, none⟩ = some (.int .u32 0) := (blk_cell hrow k).trans (by
          unfold row64 u32s
          rw [List.getElem?_toArray, List.getElem?_append_right (by rw [List.length_map, sched_length]; exact Nat.le_refl _), List.length_map, sched_length, Nat.sub_self, List.getElem?_replicate, if_pos (by omega)])
        have hfz := blk_frozen hrow k
        have hw0 : wrap64 (4 * (k : Int)) = 4 * (k : Int) := by unfold wrap64; omega
        have hw1 : wrap64 (4 * (k : Int) + 1) = 4 * (k : Int) + 1 := by unfold wrap64; omega
        have hw2 : wrap64 (4 * (k : Int) + 2) = 4 * (k : Int) + 2 := by unfold wrap64; omega
        have hw3 : wrap64 (4 * (k : Int) + 3) = 4 * (k : Int) + 3 := by unfold wrap64; omega
        clear hc0 hc1 hc2 hc3 hu0 hu1 hu2 hu3 hl4
        go_wp2_with fail
        refine start_ (n := 36) (S := fun w' => w'.cell? ⟨bb, bo + 4 * k, none⟩ = some (.int .u8 (x0 : Int)) ∧ w'.cell? ⟨bb, bo + (4 * k + 1), none⟩ = some (.int .u8 (x1 : Int)) ∧ w'.cell? ⟨bb, bo + (4 * k + 2), none⟩ = some (.int .u8 (x2 : Int)) ∧ w'.cell? ⟨bb, bo + (4 * k + 3), none⟩ = some (.int .u8 (x3 : Int))) (ds := [35]) #[false, false, false, false, false, false, false, false, false, false, false, false, false, false, false, false, false, false, false, false, false, false, false, false, false, false, false, false, false, false, false, false, false, false, false, false] (by kernel_rfl) rfl rfl ⟨hd0, hd1, hd2, hd3⟩ (fun hHeld => ?_)
        have hst5 : wr.drew.cell? ⟨w.heap.size, k, none⟩ = some (.int .u32 0) := hst
        have hfz5 : wr.drew.frozen? ⟨w.heap.size, k, none⟩ = false := hfz
        have hrow5 : wr.drew.heap[w.heap.size]? = some (.cells (row64 B k) 71 (0, 0)) := hrow
        have hbe5 : Below w.heap.size w wr.drew := hbe.drew
        generalize wr.drew = w5 at hst5 hfz5 hrow5 hbe5 hHeld ⊢
        refine pure_ (i := 0) (N := some 19) (v := ?_) (a' := ?_) #[true, false, false, false, false, false, false, false, false, false, false, false, false, false, false, false, false, false, false, false, false, false, false, false, false, false, false, false, false, false, false, false, false, false, false, false] rfl rfl (by kernel_rfl) (fun _ _ _ h => h) (Or.inl ⟨by rfl, ?_⟩) ?_ ?_
        rotate_left
        · intro w'
          go_simp
          with_reducible rfl
        rotate_left
        · simp only [Act.put, List.setIfInBounds_toArray, List.set_cons_zero, List.set_cons_succ, i64_w, i32_w]
          rfl
        refine pure_ (i := 1) (N := some 20) (v := ?_) (a' := ?_) #[true, true, false, false, false, false, false, false, false, false, false, false, false, false, false, false, false, false, false, false, false, false, false, false, false, false, false, false, false, false, false, false, false, false, false, false] rfl rfl (by kernel_rfl) (fun _ _ _ h => h) (Or.inl ⟨by rfl, ?_⟩) ?_ ?_
        rotate_left
        · intro w'
          go_simp
          with_reducible rfl
        rotate_left
        · simp only [Act.put, List.setIfInBounds_toArray, List.set_cons_zero, List.set_cons_succ, i64_w, i32_w]
          rfl
        refine pure_ (i := 2) (N := some 21) (v := ?_) (a' := ?_) #[true, true, true, false, false, false, false, false, false, false, false, false, false, false, false, false, false, false, false, false, false, false, false, false, false, false, false, false, false, false, false, false, false, false, false, false] rfl rfl (by kernel_rfl) (fun _ _ _ h => h) (Or.inl ⟨by rfl, ?_⟩) ?_ ?_
        rotate_left
        · intro w'
          go_simp
          with_reducible rfl
        rotate_left
        · simp only [Act.put, List.setIfInBounds_toArray, List.set_cons_zero, List.set_cons_succ, i64_w, i32_w]
          rfl
        refine pure_ (i := 3) (N := some 22) (v := ?_) (a' := ?_) #[true, true, true, true, false, false, false, false, false, false, false, false, false, false, false, false, false, false, false, false, false, false, false, false, false, false, false, false, false, false, false, false, false, false, false, false] rfl rfl (by kernel_rfl) (fun _ _ _ h => h) (Or.inl ⟨by rfl, ?_⟩) ?_ ?_
        rotate_left
        · intro w'
          go_simp
          with_reducible rfl
        rotate_left
        · simp only [Act.put, List.setIfInBounds_toArray, List.set_cons_zero, List.set_cons_succ, i64_w, i32_w]
          rfl
        refine pure_ (i := 4) (N := some 23) (v := ?_) (a' := ?_) #[true, true, true, true, true, false, false, false, false, false, false, false, false, false, false, false, false, false, false, false, false, false, false, false, false, false, false, false, false, false, false, false, false, false, false, false] rfl rfl (by kernel_rfl) (fun _ _ _ h => h) (Or.inl ⟨by rfl, ?_⟩) ?_ ?_
        rotate_left
        · intro w'
          go_simp
          with_reducible rfl
        rotate_left
        · simp only [Act.put, List.setIfInBounds_toArray, List.set_cons_zero, List.set_cons_succ, i64_w, i32_w]
          rfl
        refine pure_ (i := 8) (N := some 27) (v := ?_) (a' := ?_) #[true, true, true, true, true, false, false, false, true, false, false, false, false, false, false, false, false, false, false, false, false, false, false, false, false, false, false, false, false, false, false, false, false, false, false, false] rfl rfl (by kernel_rfl) (fun _ _ _ h => h) (Or.inl ⟨by rfl, ?_⟩) ?_ ?_
        rotate_left
        · intro w'
          go_simp
          with_reducible rfl
        rotate_left
        · simp only [Act.put, List.setIfInBounds_toArray, List.set_cons_zero, List.set_cons_succ, i64_w, i32_w]
          rfl
        refine pure_ (i := 9) (N := some 28) (v := ?_) (a' := ?_) #[true, true, true, true, true, false, false, false, true, true, false, false, false, false, false, false, false, false, false, false, false, false, false, false, false, false, false, false, false, false, false, false, false, false, false, false] rfl rfl (by kernel_rfl) (fun _ _ _ h => h) (Or.inl ⟨by rfl, ?_⟩) ?_ ?_
        rotate_left
        · intro w'
          go_simp
          with_reducible rfl
        rotate_left
        · simp only [Act.put, List.setIfInBounds_toArray, List.set_cons_zero, List.set_cons_succ, i64_w, i32_w]
          rfl
        refine pure_ (i := 10) (N := some 29) (v := ?_) (a' := ?_) #[true, true, true, true, true, false, false, false, true, true, true, false, false, false, false, false, false, false, false, false, false, false, false, false, false, false, false, false, false, false, false, false, false, false, false, false] rfl rfl (by kernel_rfl) (fun _ _ _ h => h) (Or.inl ⟨by rfl, ?_⟩) ?_ ?_
        rotate_left
        · intro w'
          go_simp
          with_reducible rfl
        rotate_left
        · simp only [Act.put, List.setIfInBounds_toArray, List.set_cons_zero, List.set_cons_succ, i64_w, i32_w]
          rfl
        refine pure_ (i := 11) (N := some 30) (v := ?_) (a' := ?_) #[true, true, true, true, true, false, false, false, true, true, true, true, false, false, false, false, false, false, false, false, false, false, false, false, false, false, false, false, false, false, false, false, false, false, false, false] rfl rfl (by kernel_rfl) (fun _ _ _ h => h) (Or.inl ⟨by rfl, ?_⟩) ?_ ?_
        rotate_left
        · intro w'
          go_simp
          with_reducible rfl
        rotate_left
        · simp only [Act.put, List.setIfInBounds_toArray, List.set_cons_zero, List.set_cons_succ, i64_w, i32_w]
          rfl
        refine pure_ (i := 12) (N := some 31) (v := ?_) (a' := ?_) #[true, true, true, true, true, false, false, false, true, true, true, true, true, false, false, false, false, false, false, false, false, false, false, false, false, false, false, false, false, false, false, false, false, false, false, false] rfl rfl (by kernel_rfl) (fun _ _ _ h => h) (Or.inl ⟨by rfl, ?_⟩) ?_ ?_
        rotate_left
        · intro w'
          go_simp
          with_reducible rfl
        rotate_left
        · simp only [Act.put, List.setIfInBounds_toArray, List.set_cons_zero, List.set_cons_succ, i64_w, i32_w]
          rfl
        refine pure_ (i := 17) (N := some 36) (v := ?_) (a' := ?_) #[true, true, true, true, true, false, false, false, true, true, true, true, true, false, false, false, false, true, false, false, false, false, false, false, false, false, false, false, false, false, false, false, false, false, false, false] rfl rfl (by kernel_rfl) (fun _ _ _ h => h) (Or.inl ⟨by rfl, ?_⟩) ?_ ?_
        rotate_left
        · intro w'
          go_simp
          with_reducible rfl
        rotate_left
        · simp only [Act.put, List.setIfInBounds_toArray, List.set_cons_zero, List.set_cons_succ, i64_w, i32_w]
          rfl
        refine pure_ (i := 18) (N := some 37) (v := ?_) (a' := ?_) #[true, true, true, true, true, false, false, false, true, true, true, true, true, false, false, false, false, true, true, false, false, false, false, false, false, false, false, false, false, false, false, false, false, false, false, false] rfl rfl (by kernel_rfl) (fun _ _ _ h => h) (Or.inl ⟨by rfl, ?_⟩) ?_ ?_
        rotate_left
        · intro w'
          go_simp
          with_reducible rfl
        rotate_left
        · simp only [Act.put, List.setIfInBounds_toArray, List.set_cons_zero, List.set_cons_succ, i64_w, i32_w]
          rfl
        refine pure_ (i := 19) (N := some 38) (v := ?_) (a' := ?_) #[true, true, true, true, true, false, false, false, true, true, true, true, true, false, false, false, false, true, true, true, false, false, false, false, false, false, false, false, false, false, false, false, false, false, false, false] rfl rfl (by kernel_rfl) (fun _ _ _ h => h) (Or.inl ⟨by rfl, ?_⟩) ?_ ?_
        rotate_left
        · intro w'
          go_simp
          with_reducible rfl
        rotate_left
        · simp only [Act.put, List.setIfInBounds_toArray, List.set_cons_zero, List.set_cons_succ, i64_w, i32_w]
          rfl
        refine pure_ (i := 20) (N := some 39) (v := ?_) (a' := ?_) #[true, true, true, true, true, false, false, false, true, true, true, true, true, false, false, false, false, true, true, true, true, false, false, false, false, false, false, false, false, false, false, false, false, false, false, false] rfl rfl (by kernel_rfl) (fun _ _ _ h => h) (Or.inl ⟨by rfl, ?_⟩) ?_ ?_
        rotate_left
        · intro w'
          go_simp
          with_reducible rfl
        rotate_left
        · simp only [Act.put, List.setIfInBounds_toArray, List.set_cons_zero, List.set_cons_succ, i64_w, i32_w]
          rfl
        refine pure_ (i := 21) (N := some 40) (v := ?_) (a' := ?_) #[true, true, true, true, true, false, false, false, true, true, true, true, true, false, false, false, false, true, true, true, true, true, false, false, false, false, false, false, false, false, false, false, false, false, false, false] rfl rfl (by kernel_rfl) (fun _ _ _ h => h) (Or.inl ⟨by rfl, ?_⟩) ?_ ?_
        rotate_left
        · intro w'
          go_simp
          with_reducible rfl
        rotate_left
        · simp only [Act.put, List.setIfInBounds_toArray, List.set_cons_zero, List.set_cons_succ, i64_w, i32_w]
          rfl
        refine pure_ (i := 26) (N := some 45) (v := ?_) (a' := ?_) #[true, true, true, true, true, false, false, false, true, true, true, true, true, false, false, false, false, true, true, true, true, true, false, false, false, false, true, false, false, false, false, false, false, false, false, false] rfl rfl (by kernel_rfl) (fun _ _ _ h => h) (Or.inl ⟨by rfl, ?_⟩) ?_ ?_
        rotate_left
        · intro w'
          go_simp
          with_reducible rfl
        rotate_left
        · simp only [Act.put, List.setIfInBounds_toArray, List.set_cons_zero, List.set_cons_succ, i64_w, i32_w]
          rfl
        refine pure_ (i := 27) (N := some 46) (v := ?_) (a' := ?_) #[true, true, true, true, true, false, false, false, true, true, true, true, true, false, false, false, false, true, true, true, true, true, false, false, false, false, true, true, false, false, false, false, false, false, false, false] rfl rfl (by kernel_rfl) (fun _ _ _ h => h) (Or.inl ⟨by rfl, ?_⟩) ?_ ?_
        rotate_left
        · intro w'
          go_simp
          with_reducible rfl
        rotate_left
        · simp only [Act.put, List.setIfInBounds_toArray, List.set_cons_zero, List.set_cons_succ, i64_w, i32_w]
          rfl
        refine pure_ (i := 28) (N := some 47) (v := ?_) (a' := ?_) #[true, true, true, true, true, false, false, false, true, true, true, true, true, false, false, false, false, true, true, true, true, true, false, false, false, false, true, true, true, false, false, false, false, false, false, false] rfl rfl (by kernel_rfl) (fun _ _ _ h => h) (Or.inl ⟨by rfl, ?_⟩) ?_ ?_
        rotate_left
        · intro w'
          go_simp
          with_reducible rfl
        rotate_left
        · simp only [Act.put, List.setIfInBounds_toArray, List.set_cons_zero, List.set_cons_succ, i64_w, i32_w]
          rfl
        refine pure_ (i := 29) (N := some 48) (v := ?_) (a' := ?_) #[true, true, true, true, true, false, false, false, true, true, true, true, true, false, false, false, false, true, true, true, true, true, false, false, false, false, true, true, true, true, false, false, false, false, false, false] rfl rfl (by kernel_rfl) (fun _ _ _ h => h) (Or.inl ⟨by rfl, ?_⟩) ?_ ?_
        rotate_left
        · intro w'
          go_simp
          with_reducible rfl
        rotate_left
        · simp only [Act.put, List.setIfInBounds_toArray, List.set_cons_zero, List.set_cons_succ, i64_w, i32_w]
          rfl
        refine pure_ (i := 30) (N := some 49) (v := ?_) (a' := ?_) #[true, true, true, true, true, false, false, false, true, true, true, true, true, false, false, false, false, true, true, true, true, true, false, false, false, false, true, true, true, true, true, false, false, false, false, false] rfl rfl (by kernel_rfl) (fun _ _ _ h => h) (Or.inl ⟨by rfl, ?_⟩) ?_ ?_
        rotate_left
        · intro w'
          go_simp
          with_reducible rfl
        rotate_left
        · simp only [Act.put, List.setIfInBounds_toArray, List.set_cons_zero, List.set_cons_succ, i64_w, i32_w]
          rfl
        refine take_ (i := 5) (N := some 24) (v := ?_) (a' := ?_) #[true, true, true, true, true, true, false, false, true, true, true, true, true, false, false, false, false, true, true, true, true, true, false, false, false, false, true, true, true, true, true, false, false, false, false, false] rfl rfl (by kernel_rfl) (fun _ _ _ h => h) (Or.inl ⟨by rfl, ?_⟩) hHeld ?_ ?_
        rotate_left
        · rintro w' ⟨s0, s1, s2, s3⟩
          go_simp
          with_reducible rfl
        rotate_left
        · simp only [Act.put, List.setIfInBounds_toArray, List.set_cons_zero, List.set_cons_succ, i64_w, i32_w]
          rfl
        refine pure_ (i := 6) (N := some 25) (v := ?_) (a' := ?_) #[true, true, true, true, true, true, true, false, true, true, true, true, true, false, false, false, false, true, true, true, true, true, false, false, false, false, true, true, true, true, true, false, false, false, false, false] rfl rfl (by kernel_rfl) (fun _ _ _ h => h) (Or.inl ⟨by rfl, ?_⟩) ?_ ?_
        rotate_left
        · intro w'
          go_simp
          with_reducible rfl
        rotate_left
        · simp only [Act.put, List.setIfInBounds_toArray, List.set_cons_zero, List.set_cons_succ, i64_w, i32_w]
          rfl
        refine pure_ (i := 7) (N := some 26) (v := ?_) (a' := ?_) #[true, true, true, true, true, true, true, true, true, true, true, true, true, false, false, false, false, true, true, true, true, true, false, false, false, false, true, true, true, true, true, false, false, false, false, false] rfl rfl (by kernel_rfl) (fun _ _ _ h => h) (Or.inl ⟨by rfl, ?_⟩) ?_ ?_
        rotate_left
        · intro w'
          go_simp
          with_reducible rfl
        rotate_left
        · simp only [Act.put, List.setIfInBounds_toArray, List.set_cons_zero, List.set_cons_succ, i64_w, i32_w]
          rfl
        refine take_ (i := 13) (N := some 32) (v := ?_) (a' := ?_) #[true, true, true, true, true, true, true, true, true, true, true, true, true, true, false, false, false, true, true, true, true, true, false, false, false, false, true, true, true, true, true, false, false, false, false, false] rfl rfl (by kernel_rfl) (fun _ _ _ h => h) (Or.inl ⟨by rfl, ?_⟩) hHeld ?_ ?_
        rotate_left
        · rintro w' ⟨s0, s1, s2, s3⟩
          go_simp
          with_reducible rfl
        rotate_left
        · simp only [Act.put, List.setIfInBounds_toArray, List.set_cons_zero, List.set_cons_succ, i64_w, i32_w]
          rfl
        refine pure_ (i := 14) (N := some 33) (v := ?_) (a' := ?_) #[true, true, true, true, true, true, true, true, true, true, true, true, true, true, true, false, false, true, true, true, true, true, false, false, false, false, true, true, true, true, true, false, false, false, false, false] rfl rfl (by kernel_rfl) (fun _ _ _ h => h) (Or.inl ⟨by rfl, ?_⟩) ?_ ?_
        rotate_left
        · intro w'
          go_simp
          with_reducible rfl
        rotate_left
        · simp only [Act.put, List.setIfInBounds_toArray, List.set_cons_zero, List.set_cons_succ, i64_w, i32_w]
          rfl
        refine pure_ (i := 15) (N := some 34) (v := ?_) (a' := ?_) #[true, true, true, true, true, true, true, true, true, true, true, true, true, true, true, true, false, true, true, true, true, true, false, false, false, false, true, true, true, true, true, false, false, false, false, false] rfl rfl (by kernel_rfl) (fun _ _ _ h => h) (Or.inl ⟨by rfl, ?_⟩) ?_ ?_
        rotate_left
        · intro w'
          go_simp
          with_reducible rfl
        rotate_left
        · simp only [Act.put, List.setIfInBounds_toArray, List.set_cons_zero, List.set_cons_succ, i64_w, i32_w]
          rfl
        refine pure_ (i := 16) (N := some 35) (v := ?_) (a' := ?_) #[true, true, true, true, true, true, true, true, true, true, true, true, true, true, true, true, true, true, true, true, true, true, false, false, false, false, true, true, true, true, true, false, false, false, false, false] rfl rfl (by kernel_rfl) (fun _ _ _ h => h) (Or.inl ⟨by rfl, ?_⟩) ?_ ?_
        rotate_left
        · intro w'
          go_simp
          with_reducible rfl
        rotate_left
        · simp only [Act.put, List.setIfInBounds_toArray, List.set_cons_zero, List.set_cons_succ, i64_w, i32_w]
          rfl
        refine take_ (i := 22) (N := some 41) (v := ?_) (a' := ?_) #[true, true, true, true, true, true, true, true, true, true, true, true, true, true, true, true, true, true, true, true, true, true, true, false, false, false, true, true, true, true, true, false, false, false, false, false] rfl rfl (by kernel_rfl) (fun _ _ _ h => h) (Or.inl ⟨by rfl, ?_⟩) hHeld ?_ ?_
        rotate_left
        · rintro w' ⟨s0, s1, s2, s3⟩
          go_simp
          with_reducible rfl
        rotate_left
        · simp only [Act.put, List.setIfInBounds_toArray, List.set_cons_zero, List.set_cons_succ, i64_w, i32_w]
          rfl
        refine pure_ (i := 23) (N := some 42) (v := ?_) (a' := ?_) #[true, true, true, true, true, true, true, true, true, true, true, true, true, true, true, true, true, true, true, true, true, true, true, true, false, false, true, true, true, true, true, false, false, false, false, false] rfl rfl (by kernel_rfl) (fun _ _ _ h => h) (Or.inl ⟨by rfl, ?_⟩) ?_ ?_
        rotate_left
        · intro w'
          go_simp
          with_reducible rfl
        rotate_left
        · simp only [Act.put, List.setIfInBounds_toArray, List.set_cons_zero, List.set_cons_succ, i64_w, i32_w]
          rfl
        refine pure_ (i := 24) (N := some 43) (v := ?_) (a' := ?_) #[true, true, true, true, true, true, true, true, true, true, true, true, true, true, true, true, true, true, true, true, true, true, true, true, true, false, true, true, true, true, true, false, false, false, false, false] rfl rfl (by kernel_rfl) (fun _ _ _ h => h) (Or.inl ⟨by rfl, ?_⟩) ?_ ?_
        rotate_left
        · intro w'
          go_simp
          with_reducible rfl
        rotate_left
        · simp only [Act.put, List.setIfInBounds_toArray, List.set_cons_zero, List.set_cons_succ, i64_w, i32_w]
          rfl
        refine pure_ (i := 25) (N := some 44) (v := ?_) (a' := ?_) #[true, true, true, true, true, true, true, true, true, true, true, true, true, true, true, true, true, true, true, true, true, true, true, true, true, true, true, true, true, true, true, false, false, false, false, false] rfl rfl (by kernel_rfl) (fun _ _ _ h => h) (Or.inl ⟨by rfl, ?_⟩) ?_ ?_
        rotate_left
        · intro w'
          go_simp
          with_reducible rfl
        rotate_left
        · simp only [Act.put, List.setIfInBounds_toArray, List.set_cons_zero, List.set_cons_succ, i64_w, i32_w]
          rfl
        refine take_ (i := 31) (N := some 50) (v := ?_) (a' := ?_) #[true, true, true, true, true, true, true, true, true, true, true, true, true, true, true, true, true, true, true, true, true, true, true, true, true, true, true, true, true, true, true, true, false, false, false, false] rfl rfl (by kernel_rfl) (fun _ _ _ h => h) (Or.inl ⟨by rfl, ?_⟩) hHeld ?_ ?_
        rotate_left
        · rintro w' ⟨s0, s1, s2, s3⟩
          go_simp
          with_reducible rfl
        rotate_left
        · simp only [Act.put, List.setIfInBounds_toArray, List.set_cons_zero, List.set_cons_succ, i64_w, i32_w]
          rfl
        refine pure_ (i := 32) (N := some 51) (v := ?_) (a' := ?_) #[true, true, true, true, true, true, true, true, true, true, true, true, true, true, true, true, true, true, true, true, true, true, true, true, true, true, true, true, true, true, true, true, true, false, false, false] rfl rfl (by kernel_rfl) (fun _ _ _ h => h) (Or.inl ⟨by rfl, ?_⟩) ?_ ?_
        rotate_left
        · intro w'
          go_simp
          with_reducible rfl
        rotate_left
        · simp only [Act.put, List.setIfInBounds_toArray, List.set_cons_zero, List.set_cons_succ, i64_w, i32_w]
          rfl
        refine pure_ (i := 33) (N := some 52) (v := ?_) (a' := ?_) #[true, true, true, true, true, true, true, true, true, true, true, true, true, true, true, true, true, true, true, true, true, true, true, true, true, true, true, true, true, true, true, true, true, true, false, false] rfl rfl (by kernel_rfl) (fun _ _ _ h => h) (Or.inl ⟨by rfl, ?_⟩) ?_ ?_
        rotate_left
        · intro w'
          go_simp
          with_reducible rfl
        rotate_left
        · simp only [Act.put, List.setIfInBounds_toArray, List.set_cons_zero, List.set_cons_succ, i64_w, i32_w]
          rfl
        refine pure_ (i := 34) (N := some 53) (v := ?_) (a' := ?_) #[true, true, true, true, true, true, true, true, true, true, true, true, true, true, true, true, true, true, true, true, true, true, true, true, true, true, true, true, true, true, true, true, true, true, true, false] rfl rfl (by kernel_rfl) (fun _ _ _ h => h) (Or.inl ⟨by rfl, ?_⟩) ?_ ?_
        rotate_left
        · intro w'
          go_simp
          with_reducible rfl
        rotate_left
        · simp only [Act.put, List.setIfInBounds_toArray, List.set_cons_zero, List.set_cons_succ, i64_w, i32_w]
          rfl
        refine last_ (i := 35) (N := none) #[true, true, true, true, true, true, true, true, true, true, true, true, true, true, true, true, true, true, true, true, true, true, true, true, true, true, true, true, true, true, true, true, true, true, true, true] rfl rfl (by kernel_rfl) (by decide) (fun K hK => ?_)
        refine skip_ (w1 := ?_) (by rfl) rfl ?_ ?_
        rotate_left
        · go_simp
          rfl
        refine hK.out _ _ ?_
        clear hK K
        refine done_ (by kernel_rfl) ?_
        go_wp2_with fail
        go_roundw
        case rel =>
          refine ⟨k + 1, by omega, by go_num, ?_, ?_⟩
          · refine blk_put hrow5 k _ ?_
            have hv : sched B (k + 1) = sched B k ++ [((x0 * 16777216 ||| x1 * 65536) ||| x2 * 256) ||| x3] := by
              show sched B k ++ [if k < 16 then wInit B k else wNext (sched B k) k] = _
              rw [if_pos h16]
              unfold wInit
              rw [hx0, hx1, hx2, hx3]
            rw [← row_step B k _ hlt hv, ← or4 x0 x1 x2 x3 hlt0 hlt1 hlt2 hlt3]
          · exact below_set hbe5 (Nat.le_refl _)
        case measure => simp [intOf]; omega
      · have KN0 : Know w wr.drew B k := ⟨hrow, hbe.drew⟩
        obtain ⟨y16, hy16⟩ : ∃ y, (sched B k).getD (k - 16) 0 = y := ⟨_, rfl⟩
        obtain ⟨y7, hy7⟩ : ∃ y, (sched B k).getD (k - 7) 0 = y := ⟨_, rfl⟩
        obtain ⟨y15, hy15⟩ : ∃ y, (sched B k).getD (k - 15) 0 = y := ⟨_, rfl⟩
        obtain ⟨y2, hy2⟩ : ∃ y, (sched B k).getD (k - 2) 0 = y := ⟨_, rfl⟩
        have l16 : y16 < 4294967296 := by rw [← hy16]; exact sched_lt _ _ _
        have l7 : y7 < 4294967296 := by rw [← hy7]; exact sched_lt _ _ _
        have l15 : y15 < 4294967296 := by rw [← hy15]; exact sched_lt _ _ _
        have l2 : y2 < 4294967296 := by rw [← hy2]; exact sched_lt _ _ _
        have hT1 : sha_turns.f 5 (y15 : Int) [7, 18] = some ((rot y15 7 ^^^ rot y15 18 : Nat) : Int) := turns2 y15 7 18 l15 (by decide) (by decide)
        have hT2 : sha_turns.f 5 (y2 : Int) [17, 19] = some ((rot y2 17 ^^^ rot y2 19 : Nat) : Int) := turns2 y2 17 19 l2 (by decide) (by decide)
        have hq16 : wrap64 ((k : Int) - 16) = (k : Int) - 16 := by unfold wrap64; omega
        have hq7 : wrap64 ((k : Int) - 7) = (k : Int) - 7 := by unfold wrap64; omega
        have hq15 : wrap64 ((k : Int) - 15) = (k : Int) - 15 := by unfold wrap64; omega
        have hq2 : wrap64 ((k : Int) - 2) = (k : Int) - 2 := by unfold wrap64; omega
        have hz16 : ((k : Int) - 16).toNat = k - 16 := by omega
        have hz7 : ((k : Int) - 7).toNat = k - 7 := by omega
        have hz15 : ((k : Int) - 15).toNat = k - 15 := by omega
        have hz2 : ((k : Int) - 2).toNat = k - 2 := by omega
        have hm0 : (0 : Int) ≤ (k : Int) - 16 ∧ (k : Int) - 16 < 64 ∧ (0 : Int) ≤ (k : Int) - 7 ∧ (k : Int) - 7 < 64 ∧ (0 : Int) ≤ (k : Int) - 15 ∧ (k : Int) - 15 < 64 ∧ (0 : Int) ≤ (k : Int) - 2 ∧ (k : Int) - 2 < 64 := by omega
        obtain ⟨g1, g2, g3, g4, g5, g6, g7, g8⟩ := hm0
        have j16 : (16 : Int) ≤ (k : Int) := by omega
        have j7 : (7 : Int) ≤ (k : Int) := by omega
        have j15 : (15 : Int) ≤ (k : Int) := by omega
        have j2 : (2 : Int) ≤ (k : Int) := by omega
        go_wp2_with fail
        refine start_ (n := 38) (S := fun w' => w'.cell? ⟨w.heap.size, k - 16, none⟩ = some (.int .u32 (y16 : Int)) ∧ w'.cell? ⟨w.heap.size, k - 7, none⟩ = some (.int .u32 (y7 : Int)) ∧ w'.cell? ⟨w.heap.size, k - 15, none⟩ = some (.int .u32 (y15 : Int)) ∧ w'.cell? ⟨w.heap.size, k - 2, none⟩ = some (.int .u32 (y2 : Int))) (ds := [37]) #[false, false, false, false, false, false, false, false, false, false, false, false, false, false, false, false, false, false, false, false, false, false, false, false, false, false, false, false, false, false, false, false, false, false, false, false, false, false] (by kernel_rfl) rfl rfl ⟨(KN0.cell (k - 16) (by omega) y16 hy16), (KN0.cell (k - 7) (by omega) y7 hy7), (KN0.cell (k - 15) (by omega) y15 hy15), (KN0.cell (k - 2) (by omega) y2 hy2)⟩ (fun hHeld => ?_)
        have KN := KN0
        generalize wr.drew = w6 at KN hHeld ⊢
        refine pure_ (i := 0) (N := some 54) (v := ?_) (a' := ?_) #[true, false, false, false, false, false, false, false, false, false, false, false, false, false, false, false, false, false, false, false, false, false, false, false, false, false, false, false, false, false, false, false, false, false, false, false, false, false] rfl rfl (by kernel_rfl) (fun _ _ _ h => h) (Or.inl ⟨by rfl, ?_⟩) ?_ ?_
        rotate_left
        · intro w'
          go_simp
          with_reducible rfl
        rotate_left
        · simp only [Act.put, List.setIfInBounds_toArray, List.set_cons_zero, List.set_cons_succ, i64_w, i32_w]
          rfl
        refine pure_ (i := 1) (N := some 55) (v := ?_) (a' := ?_) #[true, true, false, false, false, false, false, false, false, false, false, false, false, false, false, false, false, false, false, false, false, false, false, false, false, false, false, false, false, false, false, false, false, false, false, false, false, false] rfl rfl (by kernel_rfl) (fun _ _ _ h => h) (Or.inl ⟨by rfl, ?_⟩) ?_ ?_
        rotate_left
        · intro w'
          go_simp
          with_reducible rfl
        rotate_left
        · simp only [Act.put, List.setIfInBounds_toArray, List.set_cons_zero, List.set_cons_succ, i64_w, i32_w]
          rfl
        refine pure_ (i := 2) (N := some 56) (v := ?_) (a' := ?_) #[true, true, true, false, false, false, false, false, false, false, false, false, false, false, false, false, false, false, false, false, false, false, false, false, false, false, false, false, false, false, false, false, false, false, false, false, false, false] rfl rfl (by kernel_rfl) (fun _ _ _ h => h) (Or.inl ⟨by rfl, ?_⟩) ?_ ?_
        rotate_left
        · intro w'
          go_simp
          with_reducible rfl
        rotate_left
        · simp only [Act.put, List.setIfInBounds_toArray, List.set_cons_zero, List.set_cons_succ, i64_w, i32_w]
          rfl
        refine pure_ (i := 3) (N := some 57) (v := ?_) (a' := ?_) #[true, true, true, true, false, false, false, false, false, false, false, false, false, false, false, false, false, false, false, false, false, false, false, false, false, false, false, false, false, false, false, false, false, false, false, false, false, false] rfl rfl (by kernel_rfl) (fun _ _ _ h => h) (Or.inl ⟨by rfl, ?_⟩) ?_ ?_
        rotate_left
        · intro w'
          go_simp
          with_reducible rfl
        rotate_left
        · simp only [Act.put, List.setIfInBounds_toArray, List.set_cons_zero, List.set_cons_succ, i64_w, i32_w]
          rfl
        refine pure_ (i := 5) (N := some 59) (v := ?_) (a' := ?_) #[true, true, true, true, false, true, false, false, false, false, false, false, false, false, false, false, false, false, false, false, false, false, false, false, false, false, false, false, false, false, false, false, false, false, false, false, false, false] rfl rfl (by kernel_rfl) (fun _ _ _ h => h) (Or.inl ⟨by rfl, ?_⟩) ?_ ?_
        rotate_left
        · intro w'
          go_simp
          with_reducible rfl
        rotate_left
        · simp only [Act.put, List.setIfInBounds_toArray, List.set_cons_zero, List.set_cons_succ, i64_w, i32_w]
          rfl
        refine pure_ (i := 6) (N := some 60) (v := ?_) (a' := ?_) #[true, true, true, true, false, true, true, false, false, false, false, false, false, false, false, false, false, false, false, false, false, false, false, false, false, false, false, false, false, false, false, false, false, false, false, false, false, false] rfl rfl (by kernel_rfl) (fun _ _ _ h => h) (Or.inl ⟨by rfl, ?_⟩) ?_ ?_
        rotate_left
        · intro w'
          go_simp
          with_reducible rfl
        rotate_left
        · simp only [Act.put, List.setIfInBounds_toArray, List.set_cons_zero, List.set_cons_succ, i64_w, i32_w]
          rfl
        refine pure_ (i := 7) (N := some 61) (v := ?_) (a' := ?_) #[true, true, true, true, false, true, true, true, false, false, false, false, false, false, false, false, false, false, false, false, false, false, false, false, false, false, false, false, false, false, false, false, false, false, false, false, false, false] rfl rfl (by kernel_rfl) (fun _ _ _ h => h) (Or.inl ⟨by rfl, ?_⟩) ?_ ?_
        rotate_left
        · intro w'
          go_simp
          with_reducible rfl
        rotate_left
        · simp only [Act.put, List.setIfInBounds_toArray, List.set_cons_zero, List.set_cons_succ, i64_w, i32_w]
          rfl
        refine pure_ (i := 10) (N := some 64) (v := ?_) (a' := ?_) #[true, true, true, true, false, true, true, true, false, false, true, false, false, false, false, false, false, false, false, false, false, false, false, false, false, false, false, false, false, false, false, false, false, false, false, false, false, false] rfl rfl (by kernel_rfl) (fun _ _ _ h => h) (Or.inl ⟨by rfl, ?_⟩) ?_ ?_
        rotate_left
        · intro w'
          go_simp
          with_reducible rfl
        rotate_left
        · simp only [Act.put, List.setIfInBounds_toArray, List.set_cons_zero, List.set_cons_succ, i64_w, i32_w]
          rfl
        refine pure_ (i := 11) (N := some 65) (v := ?_) (a' := ?_) #[true, true, true, true, false, true, true, true, false, false, true, true, false, false, false, false, false, false, false, false, false, false, false, false, false, false, false, false, false, false, false, false, false, false, false, false, false, false] rfl rfl (by kernel_rfl) (fun _ _ _ h => h) (Or.inl ⟨by rfl, ?_⟩) ?_ ?_
        rotate_left
        · intro w'
          go_simp
          with_reducible rfl
        rotate_left
        · simp only [Act.put, List.setIfInBounds_toArray, List.set_cons_zero, List.set_cons_succ, i64_w, i32_w]
          rfl
        refine pure_ (i := 12) (N := some 66) (v := ?_) (a' := ?_) #[true, true, true, true, false, true, true, true, false, false, true, true, true, false, false, false, false, false, false, false, false, false, false, false, false, false, false, false, false, false, false, false, false, false, false, false, false, false] rfl rfl (by kernel_rfl) (fun _ _ _ h => h) (Or.inl ⟨by rfl, ?_⟩) ?_ ?_
        rotate_left
        · intro w'
          go_simp
          with_reducible rfl
        rotate_left
        · simp only [Act.put, List.setIfInBounds_toArray, List.set_cons_zero, List.set_cons_succ, i64_w, i32_w]
          rfl
        refine pure_ (i := 16) (N := some 70) (v := ?_) (a' := ?_) #[true, true, true, true, false, true, true, true, false, false, true, true, true, false, false, false, true, false, false, false, false, false, false, false, false, false, false, false, false, false, false, false, false, false, false, false, false, false] rfl rfl (by kernel_rfl) (fun _ _ _ h => h) (Or.inl ⟨by rfl, ?_⟩) ?_ ?_
        rotate_left
        · intro w'
          go_simp
          with_reducible rfl
        rotate_left
        · simp only [Act.put, List.setIfInBounds_toArray, List.set_cons_zero, List.set_cons_succ, i64_w, i32_w]
          rfl
        refine pure_ (i := 17) (N := some 71) (v := ?_) (a' := ?_) #[true, true, true, true, false, true, true, true, false, false, true, true, true, false, false, false, true, true, false, false, false, false, false, false, false, false, false, false, false, false, false, false, false, false, false, false, false, false] rfl rfl (by kernel_rfl) (fun _ _ _ h => h) (Or.inl ⟨by rfl, ?_⟩) ?_ ?_
        rotate_left
        · intro w'
          go_simp
          with_reducible rfl
        rotate_left
        · simp only [Act.put, List.setIfInBounds_toArray, List.set_cons_zero, List.set_cons_succ, i64_w, i32_w]
          rfl
        refine pure_ (i := 18) (N := some 72) (v := ?_) (a' := ?_) #[true, true, true, true, false, true, true, true, false, false, true, true, true, false, false, false, true, true, true, false, false, false, false, false, false, false, false, false, false, false, false, false, false, false, false, false, false, false] rfl rfl (by kernel_rfl) (fun _ _ _ h => h) (Or.inl ⟨by rfl, ?_⟩) ?_ ?_
        rotate_left
        · intro w'
          go_simp
          with_reducible rfl
        rotate_left
        · simp only [Act.put, List.setIfInBounds_toArray, List.set_cons_zero, List.set_cons_succ, i64_w, i32_w]
          rfl
        refine pure_ (i := 23) (N := some 77) (v := ?_) (a' := ?_) #[true, true, true, true, false, true, true, true, false, false, true, true, true, false, false, false, true, true, true, false, false, false, false, true, false, false, false, false, false, false, false, false, false, false, false, false, false, false] rfl rfl (by kernel_rfl) (fun _ _ _ h => h) (Or.inl ⟨by rfl, ?_⟩) ?_ ?_
        rotate_left
        · intro w'
          go_simp
          with_reducible rfl
        rotate_left
        · simp only [Act.put, List.setIfInBounds_toArray, List.set_cons_zero, List.set_cons_succ, i64_w, i32_w]
          rfl
        refine pure_ (i := 24) (N := some 78) (v := ?_) (a' := ?_) #[true, true, true, true, false, true, true, true, false, false, true, true, true, false, false, false, true, true, true, false, false, false, false, true, true, false, false, false, false, false, false, false, false, false, false, false, false, false] rfl rfl (by kernel_rfl) (fun _ _ _ h => h) (Or.inl ⟨by rfl, ?_⟩) ?_ ?_
        rotate_left
        · intro w'
          go_simp
          with_reducible rfl
        rotate_left
        · simp only [Act.put, List.setIfInBounds_toArray, List.set_cons_zero, List.set_cons_succ, i64_w, i32_w]
          rfl
        refine pure_ (i := 25) (N := some 79) (v := ?_) (a' := ?_) #[true, true, true, true, false, true, true, true, false, false, true, true, true, false, false, false, true, true, true, false, false, false, false, true, true, true, false, false, false, false, false, false, false, false, false, false, false, false] rfl rfl (by kernel_rfl) (fun _ _ _ h => h) (Or.inl ⟨by rfl, ?_⟩) ?_ ?_
        rotate_left
        · intro w'
          go_simp
          with_reducible rfl
        rotate_left
        · simp only [Act.put, List.setIfInBounds_toArray, List.set_cons_zero, List.set_cons_succ, i64_w, i32_w]
          rfl
        refine pure_ (i := 29) (N := some 83) (v := ?_) (a' := ?_) #[true, true, true, true, false, true, true, true, false, false, true, true, true, false, false, false, true, true, true, false, false, false, false, true, true, true, false, false, false, true, false, false, false, false, false, false, false, false] rfl rfl (by kernel_rfl) (fun _ _ _ h => h) (Or.inl ⟨by rfl, ?_⟩) ?_ ?_
        rotate_left
        · intro w'
          go_simp
          with_reducible rfl
        rotate_left
        · simp only [Act.put, List.setIfInBounds_toArray, List.set_cons_zero, List.set_cons_succ, i64_w, i32_w]
          rfl
        refine pure_ (i := 30) (N := some 84) (v := ?_) (a' := ?_) #[true, true, true, true, false, true, true, true, false, false, true, true, true, false, false, false, true, true, true, false, false, false, false, true, true, true, false, false, false, true, true, false, false, false, false, false, false, false] rfl rfl (by kernel_rfl) (fun _ _ _ h => h) (Or.inl ⟨by rfl, ?_⟩) ?_ ?_
        rotate_left
        · intro w'
          go_simp
          with_reducible rfl
        rotate_left
        · simp only [Act.put, List.setIfInBounds_toArray, List.set_cons_zero, List.set_cons_succ, i64_w, i32_w]
          rfl
        refine pure_ (i := 31) (N := some 85) (v := ?_) (a' := ?_) #[true, true, true, true, false, true, true, true, false, false, true, true, true, false, false, false, true, true, true, false, false, false, false, true, true, true, false, false, false, true, true, true, false, false, false, false, false, false] rfl rfl (by kernel_rfl) (fun _ _ _ h => h) (Or.inl ⟨by rfl, ?_⟩) ?_ ?_
        rotate_left
        · intro w'
          go_simp
          with_reducible rfl
        rotate_left
        · simp only [Act.put, List.setIfInBounds_toArray, List.set_cons_zero, List.set_cons_succ, i64_w, i32_w]
          rfl
        refine take_ (i := 4) (N := some 58) (v := ?_) (a' := ?_) #[true, true, true, true, true, true, true, true, false, false, true, true, true, false, false, false, true, true, true, false, false, false, false, true, true, true, false, false, false, true, true, true, false, false, false, false, false, false] rfl rfl (by kernel_rfl) (fun _ _ _ h => h) (Or.inl ⟨by rfl, ?_⟩) hHeld ?_ ?_
        rotate_left
        · rintro w' ⟨s0, s1, s2, s3⟩
          go_simp
          with_reducible rfl
        rotate_left
        · simp only [Act.put, List.setIfInBounds_toArray, List.set_cons_zero, List.set_cons_succ, i64_w, i32_w]
          rfl
        refine take_ (i := 8) (N := some 62) (v := ?_) (a' := ?_) #[true, true, true, true, true, true, true, true, true, false, true, true, true, false, false, false, true, true, true, false, false, false, false, true, true, true, false, false, false, true, true, true, false, false, false, false, false, false] rfl rfl (by kernel_rfl) (fun _ _ _ h => h) (Or.inl ⟨by rfl, ?_⟩) hHeld ?_ ?_
        rotate_left
        · rintro w' ⟨s0, s1, s2, s3⟩
          go_simp
          with_reducible rfl
        rotate_left
        · simp only [Act.put, List.setIfInBounds_toArray, List.set_cons_zero, List.set_cons_succ, i64_w, i32_w]
          rfl
        refine pure_ (i := 9) (N := some 63) (v := ?_) (a' := ?_) #[true, true, true, true, true, true, true, true, true, true, true, true, true, false, false, false, true, true, true, false, false, false, false, true, true, true, false, false, false, true, true, true, false, false, false, false, false, false] rfl rfl (by kernel_rfl) (fun _ _ _ h => h) (Or.inl ⟨by rfl, ?_⟩) ?_ ?_
        rotate_left
        · intro w'
          go_simp
          with_reducible rfl
        rotate_left
        · simp only [Act.put, List.setIfInBounds_toArray, List.set_cons_zero, List.set_cons_succ, i64_w, i32_w]
          rfl
        refine take_ (i := 13) (N := some 67) (v := ?_) (a' := ?_) #[true, true, true, true, true, true, true, true, true, true, true, true, true, true, false, false, true, true, true, false, false, false, false, true, true, true, false, false, false, true, true, true, false, false, false, false, false, false] rfl rfl (by kernel_rfl) (fun _ _ _ h => h) (Or.inl ⟨by rfl, ?_⟩) hHeld ?_ ?_
        rotate_left
        · rintro w' ⟨s0, s1, s2, s3⟩
          go_simp
          with_reducible rfl
        rotate_left
        · simp only [Act.put, List.setIfInBounds_toArray, List.set_cons_zero, List.set_cons_succ, i64_w, i32_w]
          rfl
        refine take_ (i := 19) (N := some 73) (v := ?_) (a' := ?_) #[true, true, true, true, true, true, true, true, true, true, true, true, true, true, false, false, true, true, true, true, false, false, false, true, true, true, false, false, false, true, true, true, false, false, false, false, false, false] rfl rfl (by kernel_rfl) (fun _ _ _ h => h) (Or.inl ⟨by rfl, ?_⟩) hHeld ?_ ?_
        rotate_left
        · rintro w' ⟨s0, s1, s2, s3⟩
          go_simp
          with_reducible rfl
        rotate_left
        · simp only [Act.put, List.setIfInBounds_toArray, List.set_cons_zero, List.set_cons_succ, i64_w, i32_w]
          rfl
        refine pure_ (i := 20) (N := some 74) (v := ?_) (a' := ?_) #[true, true, true, true, true, true, true, true, true, true, true, true, true, true, false, false, true, true, true, true, true, false, false, true, true, true, false, false, false, true, true, true, false, false, false, false, false, false] rfl rfl (by kernel_rfl) (fun _ _ _ h => h) (Or.inl ⟨by rfl, ?_⟩) ?_ ?_
        rotate_left
        · intro w'
          go_simp
          with_reducible rfl
        rotate_left
        · simp only [Act.put, List.setIfInBounds_toArray, List.set_cons_zero, List.set_cons_succ, i64_w, i32_w]
          rfl
        refine take_ (i := 26) (N := some 80) (v := ?_) (a' := ?_) #[true, true, true, true, true, true, true, true, true, true, true, true, true, true, false, false, true, true, true, true, true, false, false, true, true, true, true, false, false, true, true, true, false, false, false, false, false, false] rfl rfl (by kernel_rfl) (fun _ _ _ h => h) (Or.inl ⟨by rfl, ?_⟩) hHeld ?_ ?_
        rotate_left
        · rintro w' ⟨s0, s1, s2, s3⟩
          go_simp
          with_reducible rfl
        rotate_left
        · simp only [Act.put, List.setIfInBounds_toArray, List.set_cons_zero, List.set_cons_succ, i64_w, i32_w]
          rfl
        refine take_ (i := 32) (N := some 86) (v := ?_) (a' := ?_) #[true, true, true, true, true, true, true, true, true, true, true, true, true, true, false, false, true, true, true, true, true, false, false, true, true, true, true, false, false, true, true, true, true, false, false, false, false, false] rfl rfl (by kernel_rfl) (fun _ _ _ h => h) (Or.inl ⟨by rfl, ?_⟩) hHeld ?_ ?_
        rotate_left
        · rintro w' ⟨s0, s1, s2, s3⟩
          go_simp
          with_reducible rfl
        rotate_left
        · simp only [Act.put, List.setIfInBounds_toArray, List.set_cons_zero, List.set_cons_succ, i64_w, i32_w]
          rfl
        refine pure_ (i := 33) (N := some 87) (v := ?_) (a' := ?_) #[true, true, true, true, true, true, true, true, true, true, true, true, true, true, false, false, true, true, true, true, true, false, false, true, true, true, true, false, false, true, true, true, true, true, false, false, false, false] rfl rfl (by kernel_rfl) (fun _ _ _ h => h) (Or.inl ⟨by rfl, ?_⟩) ?_ ?_
        rotate_left
        · intro w'
          go_simp
          with_reducible rfl
        rotate_left
        · simp only [Act.put, List.setIfInBounds_toArray, List.set_cons_zero, List.set_cons_succ, i64_w, i32_w]
          rfl
        refine join_ (σ := Nat × Nat) 5 #[true, true, true, true, true, true, true, true, true, true, true, true, true, true, true, true, true, true, true, true, true, true, true, true, true, true, true, true, false, true, true, true, true, true, false, false, false, false] (fun s_ => [(68, .slice (some ⟨s_.1, 0, none⟩) 2 2), (69, .int .u32 ((rot y15 7 ^^^ rot y15 18 : Nat) : Int)), (81, .slice (some ⟨s_.2, 0, none⟩) 2 2), (75, .int .u32 (Go.bits .xor .u32 ((rot y15 7 ^^^ rot y15 18 : Nat) : Int) ((y15 : Int) / 8))), (76, .int .u32 (IntKind.u32.wrap (IntKind.u32.wrap ((y16 : Int) + (y7 : Int)) + Go.bits .xor .u32 ((rot y15 7 ^^^ rot y15 18 : Nat) : Int) ((y15 : Int) / 8))))]) (fun s_ w' => (w'.cell? ⟨w.heap.size, k - 16, none⟩ = some (.int .u32 (y16 : Int)) ∧ w'.cell? ⟨w.heap.size, k - 7, none⟩ = some (.int .u32 (y7 : Int)) ∧ w'.cell? ⟨w.heap.size, k - 15, none⟩ = some (.int .u32 (y15 : Int)) ∧ w'.cell? ⟨w.heap.size, k - 2, none⟩ = some (.int .u32 (y2 : Int))) ∧ Know w w' B k ∧ Kd.C (Kd.int .i64) w' (some ⟨s_.2, 0, none⟩) 2 [17, 19]) ?_ ?_
        rotate_left
        · intro hCont
          refine two_ (i := 14) (j := 27) (Ni := some 68) (Nj := some 81) #[true, true, true, true, true, true, true, true, true, true, true, true, true, true, true, false, true, true, true, true, true, false, false, true, true, true, true, false, false, true, true, true, true, true, false, false, false, false] #[true, true, true, true, true, true, true, true, true, true, true, true, true, true, false, false, true, true, true, true, true, false, false, true, true, true, true, true, false, true, true, true, true, true, false, false, false, false] rfl rfl rfl rfl (by kernel_rfl) (by decide) (by decide) (fun K hK => ?_) (fun K hK => ?_)
          · skip
            refine value_ (w1 := ?_) (v := ?_) (by rfl) rfl ?_ ?_
            rotate_left 2
            · go_simp
              constructor
              · rfl
              · rfl
            have KN_14 := Know.alloc KN (.cells #[.int .i64 7, .int .i64 18] 3)
            have L14_w6_14 := lit2 w6 7 18 3
            generalize World.alloc w6 _ = w6_14 at KN_14 L14_w6_14 ⊢
            refine hK.out _ _ ⟨(KN_14.cell (k - 16) (by omega) y16 hy16), (KN_14.cell (k - 7) (by omega) y7 hy7), (KN_14.cell (k - 15) (by omega) y15 hy15), (KN_14.cell (k - 2) (by omega) y2 hy2)⟩ (fun hHeld => ?_)
            clear hK K
            refine norm_ (a' := ?_) ?_ ?_
            rotate_left
            · show Act.put _ (some 68) _ = _
              simp only [Act.put, List.setIfInBounds_toArray, List.set_cons_zero, List.set_cons_succ, i64_w, i32_w]
              rfl
            refine two_ (i := 15) (j := 27) (Ni := some 69) (Nj := some 81) #[true, true, true, true, true, true, true, true, true, true, true, true, true, true, true, true, true, true, true, true, true, false, false, true, true, true, true, false, false, true, true, true, true, true, false, false, false, false] #[true, true, true, true, true, true, true, true, true, true, true, true, true, true, true, false, true, true, true, true, true, false, false, true, true, true, true, true, false, true, true, true, true, true, false, false, false, false] rfl rfl rfl rfl (by kernel_rfl) (by decide) (by decide) (fun K hK => ?_) (fun K hK => ?_)
            · skip
              refine goes_ Try.func41 (by kernel_rfl) rfl #[.int .u32 (y15 : Int), .slice (some ⟨w6.heap.size, 0, none⟩) 2 2] (by rfl) rfl rfl (by simp only [List.map_toArray, List.map_cons, List.map_nil]; rfl) ?_
              with_reducible refine (turns_calls2 _ _ _ _ _ _ L14_w6_14 hT1).mono ?_
              rintro e w6_14_15 ⟨rfl, hd_⟩
              refine ⟨_, rfl, ?_⟩
              have KN_14_15 := Know.below KN_14 hd_.below
              have L14_w6_14_15 := Kd.C_below L14_w6_14 hd_.below
              refine hK.out _ _ ⟨(KN_14_15.cell (k - 16) (by omega) y16 hy16), (KN_14_15.cell (k - 7) (by omega) y7 hy7), (KN_14_15.cell (k - 15) (by omega) y15 hy15), (KN_14_15.cell (k - 2) (by omega) y2 hy2)⟩ (fun hHeld => ?_)
              clear hK K
              refine norm_ (a' := ?_) ?_ ?_
              rotate_left
              · show Act.put _ (some 69) _ = _
                simp only [Act.put, List.setIfInBounds_toArray, List.set_cons_zero, List.set_cons_succ, i64_w, i32_w]
                rfl
              refine pure_ (i := 21) (N := some 75) (v := ?_) (a' := ?_) #[true, true, true, true, true, true, true, true, true, true, true, true, true, true, true, true, true, true, true, true, true, true, false, true, true, true, true, false, false, true, true, true, true, true, false, false, false, false] rfl rfl (by kernel_rfl) (fun _ _ _ h => h) (Or.inl ⟨by rfl, ?_⟩) ?_ ?_
              rotate_left
              · intro w'
                go_simp
                with_reducible rfl
              rotate_left
              · simp only [Act.put, List.setIfInBounds_toArray, List.set_cons_zero, List.set_cons_succ, i64_w, i32_w]
                rfl
              refine pure_ (i := 22) (N := some 76) (v := ?_) (a' := ?_) #[true, true, true, true, true, true, true, true, true, true, true, true, true, true, true, true, true, true, true, true, true, true, true, true, true, true, true, false, false, true, true, true, true, true, false, false, false, false] rfl rfl (by kernel_rfl) (fun _ _ _ h => h) (Or.inl ⟨by rfl, ?_⟩) ?_ ?_
              rotate_left
              · intro w'
                go_simp
                with_reducible rfl
              rotate_left
              · simp only [Act.put, List.setIfInBounds_toArray, List.set_cons_zero, List.set_cons_succ, i64_w, i32_w]
                rfl
              refine one_ (i := 27) (N := some 81) #[true, true, true, true, true, true, true, true, true, true, true, true, true, true, true, true, true, true, true, true, true, true, true, true, true, true, true, true, false, true, true, true, true, true, false, false, false, false] rfl rfl (by kernel_rfl) (by decide) (fun K hK => ?_)
              refine value_ (w1 := ?_) (v := ?_) (by rfl) rfl ?_ ?_
              rotate_left 2
              · go_simp
                constructor
                · rfl
                · rfl
              have KN_14_15_27 := Know.alloc KN_14_15 (.cells #[.int .i64 17, .int .i64 19] 3)
              have L27_w6_14_15_27 := lit2 w6_14_15 17 19 3
              have L14_w6_14_15_27 := Kd.C_alloc L14_w6_14_15 (.cells #[.int .i64 17, .int .i64 19] 3)
              generalize World.alloc w6_14_15 _ = w6_14_15_27 at KN_14_15_27 L27_w6_14_15_27 L14_w6_14_15_27 ⊢
              refine hK.out _ _ ⟨(KN_14_15_27.cell (k - 16) (by omega) y16 hy16), (KN_14_15_27.cell (k - 7) (by omega) y7 hy7), (KN_14_15_27.cell (k - 15) (by omega) y15 hy15), (KN_14_15_27.cell (k - 2) (by omega) y2 hy2)⟩ (fun hHeld => ?_)
              clear hK K
              refine norm_ (a' := ?_) ?_ ?_
              rotate_left
              · show Act.put _ (some 81) _ = _
                simp only [Act.put, List.setIfInBounds_toArray, List.set_cons_zero, List.set_cons_succ, i64_w, i32_w]
                rfl
              exact norm_ (by simp only [putAll, Act.put, List.setIfInBounds_toArray, List.set_cons_zero, List.set_cons_succ]) (hCont (w6.heap.size, w6_14_15.heap.size) _ ⟨⟨(KN_14_15_27.cell (k - 16) (by omega) y16 hy16), (KN_14_15_27.cell (k - 7) (by omega) y7 hy7), (KN_14_15_27.cell (k - 15) (by omega) y15 hy15), (KN_14_15_27.cell (k - 2) (by omega) y2 hy2)⟩, KN_14_15_27, L27_w6_14_15_27⟩)
            · skip
              refine value_ (w1 := ?_) (v := ?_) (by rfl) rfl ?_ ?_
              rotate_left 2
              · go_simp
                constructor
                · rfl
                · rfl
              have KN_14_27 := Know.alloc KN_14 (.cells #[.int .i64 17, .int .i64 19] 3)
              have L27_w6_14_27 := lit2 w6_14 17 19 3
              have L14_w6_14_27 := Kd.C_alloc L14_w6_14 (.cells #[.int .i64 17, .int .i64 19] 3)
              generalize World.alloc w6_14 _ = w6_14_27 at KN_14_27 L27_w6_14_27 L14_w6_14_27 ⊢
              refine hK.out _ _ ⟨(KN_14_27.cell (k - 16) (by omega) y16 hy16), (KN_14_27.cell (k - 7) (by omega) y7 hy7), (KN_14_27.cell (k - 15) (by omega) y15 hy15), (KN_14_27.cell (k - 2) (by omega) y2 hy2)⟩ (fun hHeld => ?_)
              clear hK K
              refine norm_ (a' := ?_) ?_ ?_
              rotate_left
              · show Act.put _ (some 81) _ = _
                simp only [Act.put, List.setIfInBounds_toArray, List.set_cons_zero, List.set_cons_succ, i64_w, i32_w]
                rfl
              refine one_ (i := 15) (N := some 69) #[true, true, true, true, true, true, true, true, true, true, true, true, true, true, true, true, true, true, true, true, true, false, false, true, true, true, true, true, false, true, true, true, true, true, false, false, false, false] rfl rfl (by kernel_rfl) (by decide) (fun K hK => ?_)
              refine goes_ Try.func41 (by kernel_rfl) rfl #[.int .u32 (y15 : Int), .slice (some ⟨w6.heap.size, 0, none⟩) 2 2] (by rfl) rfl rfl (by simp only [List.map_toArray, List.map_cons, List.map_nil]; rfl) ?_
              with_reducible refine (turns_calls2 _ _ _ _ _ _ L14_w6_14_27 hT1).mono ?_
              rintro e w6_14_27_15 ⟨rfl, hd_⟩
              refine ⟨_, rfl, ?_⟩
              have KN_14_27_15 := Know.below KN_14_27 hd_.below
              have L14_w6_14_27_15 := Kd.C_below L14_w6_14_27 hd_.below
              have L27_w6_14_27_15 := Kd.C_below L27_w6_14_27 hd_.below
              refine hK.out _ _ ⟨(KN_14_27_15.cell (k - 16) (by omega) y16 hy16), (KN_14_27_15.cell (k - 7) (by omega) y7 hy7), (KN_14_27_15.cell (k - 15) (by omega) y15 hy15), (KN_14_27_15.cell (k - 2) (by omega) y2 hy2)⟩ (fun hHeld => ?_)
              clear hK K
              refine norm_ (a' := ?_) ?_ ?_
              rotate_left
              · show Act.put _ (some 69) _ = _
                simp only [Act.put, List.setIfInBounds_toArray, List.set_cons_zero, List.set_cons_succ, i64_w, i32_w]
                rfl
              refine pure_ (i := 21) (N := some 75) (v := ?_) (a' := ?_) #[true, true, true, true, true, true, true, true, true, true, true, true, true, true, true, true, true, true, true, true, true, true, false, true, true, true, true, true, false, true, true, true, true, true, false, false, false, false] rfl rfl (by kernel_rfl) (fun _ _ _ h => h) (Or.inl ⟨by rfl, ?_⟩) ?_ ?_
              rotate_left
              · intro w'
                go_simp
                with_reducible rfl
              rotate_left
              · simp only [Act.put, List.setIfInBounds_toArray, List.set_cons_zero, List.set_cons_succ, i64_w, i32_w]
                rfl
              refine pure_ (i := 22) (N := some 76) (v := ?_) (a' := ?_) #[true, true, true, true, true, true, true, true, true, true, true, true, true, true, true, true, true, true, true, true, true, true, true, true, true, true, true, true, false, true, true, true, true, true, false, false, false, false] rfl rfl (by kernel_rfl) (fun _ _ _ h => h) (Or.inl ⟨by rfl, ?_⟩) ?_ ?_
              rotate_left
              · intro w'
                go_simp
                with_reducible rfl
              rotate_left
              · simp only [Act.put, List.setIfInBounds_toArray, List.set_cons_zero, List.set_cons_succ, i64_w, i32_w]
                rfl
              exact norm_ (by simp only [putAll, Act.put, List.setIfInBounds_toArray, List.set_cons_zero, List.set_cons_succ]) (hCont (w6.heap.size, w6_14.heap.size) _ ⟨⟨(KN_14_27_15.cell (k - 16) (by omega) y16 hy16), (KN_14_27_15.cell (k - 7) (by omega) y7 hy7), (KN_14_27_15.cell (k - 15) (by omega) y15 hy15), (KN_14_27_15.cell (k - 2) (by omega) y2 hy2)⟩, KN_14_27_15, L27_w6_14_27_15⟩)
          · skip
            refine value_ (w1 := ?_) (v := ?_) (by rfl) rfl ?_ ?_
            rotate_left 2
            · go_simp
              constructor
              · rfl
              · rfl
            have KN_27 := Know.alloc KN (.cells #[.int .i64 17, .int .i64 19] 3)
            have L27_w6_27 := lit2 w6 17 19 3
            generalize World.alloc w6 _ = w6_27 at KN_27 L27_w6_27 ⊢
            refine hK.out _ _ ⟨(KN_27.cell (k - 16) (by omega) y16 hy16), (KN_27.cell (k - 7) (by omega) y7 hy7), (KN_27.cell (k - 15) (by omega) y15 hy15), (KN_27.cell (k - 2) (by omega) y2 hy2)⟩ (fun hHeld => ?_)
            clear hK K
            refine norm_ (a' := ?_) ?_ ?_
            rotate_left
            · show Act.put _ (some 81) _ = _
              simp only [Act.put, List.setIfInBounds_toArray, List.set_cons_zero, List.set_cons_succ, i64_w, i32_w]
              rfl
            refine one_ (i := 14) (N := some 68) #[true, true, true, true, true, true, true, true, true, true, true, true, true, true, true, false, true, true, true, true, true, false, false, true, true, true, true, true, false, true, true, true, true, true, false, false, false, false] rfl rfl (by kernel_rfl) (by decide) (fun K hK => ?_)
            refine value_ (w1 := ?_) (v := ?_) (by rfl) rfl ?_ ?_
            rotate_left 2
            · go_simp
              constructor
              · rfl
              · rfl
            have KN_27_14 := Know.alloc KN_27 (.cells #[.int .i64 7, .int .i64 18] 3)
            have L14_w6_27_14 := lit2 w6_27 7 18 3
            have L27_w6_27_14 := Kd.C_alloc L27_w6_27 (.cells #[.int .i64 7, .int .i64 18] 3)
            generalize World.alloc w6_27 _ = w6_27_14 at KN_27_14 L14_w6_27_14 L27_w6_27_14 ⊢
            refine hK.out _ _ ⟨(KN_27_14.cell (k - 16) (by omega) y16 hy16), (KN_27_14.cell (k - 7) (by omega) y7 hy7), (KN_27_14.cell (k - 15) (by omega) y15 hy15), (KN_27_14.cell (k - 2) (by omega) y2 hy2)⟩ (fun hHeld => ?_)
            clear hK K
            refine norm_ (a' := ?_) ?_ ?_
            rotate_left
            · show Act.put _ (some 68) _ = _
              simp only [Act.put, List.setIfInBounds_toArray, List.set_cons_zero, List.set_cons_succ, i64_w, i32_w]
              rfl
            refine one_ (i := 15) (N := some 69) #[true, true, true, true, true, true, true, true, true, true, true, true, true, true, true, true, true, true, true, true, true, false, false, true, true, true, true, true, false, true, true, true, true, true, false, false, false, false] rfl rfl (by kernel_rfl) (by decide) (fun K hK => ?_)
            refine goes_ Try.func41 (by kernel_rfl) rfl #[.int .u32 (y15 : Int), .slice (some ⟨w6_27.heap.size, 0, none⟩) 2 2] (by rfl) rfl rfl (by simp only [List.map_toArray, List.map_cons, List.map_nil]; rfl) ?_
            with_reducible refine (turns_calls2 _ _ _ _ _ _ L14_w6_27_14 hT1).mono ?_
            rintro e w6_27_14_15 ⟨rfl, hd_⟩
            refine ⟨_, rfl, ?_⟩
            have KN_27_14_15 := Know.below KN_27_14 hd_.below
            have L27_w6_27_14_15 := Kd.C_below L27_w6_27_14 hd_.below
            have L14_w6_27_14_15 := Kd.C_below L14_w6_27_14 hd_.below
            refine hK.out _ _ ⟨(KN_27_14_15.cell (k - 16) (by omega) y16 hy16), (KN_27_14_15.cell (k - 7) (by omega) y7 hy7), (KN_27_14_15.cell (k - 15) (by omega) y15 hy15), (KN_27_14_15.cell (k - 2) (by omega) y2 hy2)⟩ (fun hHeld => ?_)
            clear hK K
            refine norm_ (a' := ?_) ?_ ?_
            rotate_left
            · show Act.put _ (some 69) _ = _
              simp only [Act.put, List.setIfInBounds_toArray, List.set_cons_zero, List.set_cons_succ, i64_w, i32_w]
              rfl
            refine pure_ (i := 21) (N := some 75) (v := ?_) (a' := ?_) #[true, true, true, true, true, true, true, true, true, true, true, true, true, true, true, true, true, true, true, true, true, true, false, true, true, true, true, true, false, true, true, true, true, true, false, false, false, false] rfl rfl (by kernel_rfl) (fun _ _ _ h => h) (Or.inl ⟨by rfl, ?_⟩) ?_ ?_
            rotate_left
            · intro w'
              go_simp
              with_reducible rfl
            rotate_left
            · simp only [Act.put, List.setIfInBounds_toArray, List.set_cons_zero, List.set_cons_succ, i64_w, i32_w]
              rfl
            refine pure_ (i := 22) (N := some 76) (v := ?_) (a' := ?_) #[true, true, true, true, true, true, true, true, true, true, true, true, true, true, true, true, true, true, true, true, true, true, true, true, true, true, true, true, false, true, true, true, true, true, false, false, false, false] rfl rfl (by kernel_rfl) (fun _ _ _ h => h) (Or.inl ⟨by rfl, ?_⟩) ?_ ?_
            rotate_left
            · intro w'
              go_simp
              with_reducible rfl
            rotate_left
            · simp only [Act.put, List.setIfInBounds_toArray, List.set_cons_zero, List.set_cons_succ, i64_w, i32_w]
              rfl
            exact norm_ (by simp only [putAll, Act.put, List.setIfInBounds_toArray, List.set_cons_zero, List.set_cons_succ]) (hCont (w6_27.heap.size, w6.heap.size) _ ⟨⟨(KN_27_14_15.cell (k - 16) (by omega) y16 hy16), (KN_27_14_15.cell (k - 7) (by omega) y7 hy7), (KN_27_14_15.cell (k - 15) (by omega) y15 hy15), (KN_27_14_15.cell (k - 2) (by omega) y2 hy2)⟩, KN_27_14_15, L27_w6_27_14_15⟩)
        rintro ⟨s1, s2⟩ w8 ⟨hS_, KN_8, L27_w8⟩
        have hHeld : w8.cell? ⟨w.heap.size, k - 16, none⟩ = some (.int .u32 (y16 : Int)) ∧ w8.cell? ⟨w.heap.size, k - 7, none⟩ = some (.int .u32 (y7 : Int)) ∧ w8.cell? ⟨w.heap.size, k - 15, none⟩ = some (.int .u32 (y15 : Int)) ∧ w8.cell? ⟨w.heap.size, k - 2, none⟩ = some (.int .u32 (y2 : Int)) := hS_
        refine norm_ (a' := ?_) ?_ ?_
        rotate_left
        · simp only [putAll, Act.put, List.setIfInBounds_toArray, List.set_cons_zero, List.set_cons_succ]
          rfl
        refine one_ (i := 28) (N := some 82) #[true, true, true, true, true, true, true, true, true, true, true, true, true, true, true, true, true, true, true, true, true, true, true, true, true, true, true, true, true, true, true, true, true, true, false, false, false, false] rfl rfl (by kernel_rfl) (by decide) (fun K hK => ?_)
        refine goes_ Try.func41 (by kernel_rfl) rfl #[.int .u32 (y2 : Int), .slice (some ⟨s2, 0, none⟩) 2 2] (by rfl) rfl rfl (by simp only [List.map_toArray, List.map_cons, List.map_nil]; rfl) ?_
        with_reducible refine (turns_calls2 _ _ _ _ _ _ L27_w8 hT2).mono ?_
        rintro e w9 ⟨rfl, hd_⟩
        refine ⟨_, rfl, ?_⟩
        have KN_9 := Know.below KN_8 hd_.below
        have hst9 := KN_9.spare hlt
        have hfz9 := blk_frozen KN_9.1 k
        refine hK.out _ _ ⟨(KN_9.cell (k - 16) (by omega) y16 hy16), (KN_9.cell (k - 7) (by omega) y7 hy7), (KN_9.cell (k - 15) (by omega) y15 hy15), (KN_9.cell (k - 2) (by omega) y2 hy2)⟩ (fun hHeld => ?_)
        clear hK K
        refine norm_ (a' := ?_) ?_ ?_
        rotate_left
        · show Act.put _ (some 82) _ = _
          simp only [Act.put, List.setIfInBounds_toArray, List.set_cons_zero, List.set_cons_succ, i64_w, i32_w]
          rfl
        refine pure_ (i := 34) (N := some 88) (v := ?_) (a' := ?_) #[true, true, true, true, true, true, true, true, true, true, true, true, true, true, true, true, true, true, true, true, true, true, true, true, true, true, true, true, true, true, true, true, true, true, true, false, false, false] rfl rfl (by kernel_rfl) (fun _ _ _ h => h) (Or.inl ⟨by rfl, ?_⟩) ?_ ?_
        rotate_left
        · intro w'
          go_simp
          with_reducible rfl
        rotate_left
        · simp only [Act.put, List.setIfInBounds_toArray, List.set_cons_zero, List.set_cons_succ, i64_w, i32_w]
          rfl
        refine pure_ (i := 35) (N := some 89) (v := ?_) (a' := ?_) #[true, true, true, true, true, true, true, true, true, true, true, true, true, true, true, true, true, true, true, true, true, true, true, true, true, true, true, true, true, true, true, true, true, true, true, true, false, false] rfl rfl (by kernel_rfl) (fun _ _ _ h => h) (Or.inl ⟨by rfl, ?_⟩) ?_ ?_
        rotate_left
        · intro w'
          go_simp
          with_reducible rfl
        rotate_left
        · simp only [Act.put, List.setIfInBounds_toArray, List.set_cons_zero, List.set_cons_succ, i64_w, i32_w]
          rfl
        refine pure_ (i := 36) (N := some 90) (v := ?_) (a' := ?_) #[true, true, true, true, true, true, true, true, true, true, true, true, true, true, true, true, true, true, true, true, true, true, true, true, true, true, true, true, true, true, true, true, true, true, true, true, true, false] rfl rfl (by kernel_rfl) (fun _ _ _ h => h) (Or.inl ⟨by rfl, ?_⟩) ?_ ?_
        rotate_left
        · intro w'
          go_simp
          with_reducible rfl
        rotate_left
        · simp only [Act.put, List.setIfInBounds_toArray, List.set_cons_zero, List.set_cons_succ, i64_w, i32_w]
          rfl
        refine last_ (i := 37) (N := none) #[true, true, true, true, true, true, true, true, true, true, true, true, true, true, true, true, true, true, true, true, true, true, true, true, true, true, true, true, true, true, true, true, true, true, true, true, true, true] rfl rfl (by kernel_rfl) (by decide) (fun K hK => ?_)
        refine skip_ (w1 := ?_) (by rfl) rfl ?_ ?_
        rotate_left
        · go_simp
          rfl
        refine hK.out _ _ ?_
        clear hK K
        refine done_ (by kernel_rfl) ?_
        go_wp2_with fail
        go_roundw
        case rel =>
          refine ⟨k + 1, by omega, by go_num, ?_, ?_⟩
          · refine blk_put KN_9.1 k _ ?_
            have hv : sched B (k + 1) = sched B k ++ [((((y16 + y7) % 4294967296 + ((rot y15 7 ^^^ rot y15 18) ^^^ y15 / 8)) % 4294967296 + ((rot y2 17 ^^^ rot y2 19) ^^^ y2 / 1024)) % 4294967296)] := by
              show sched B k ++ [if k < 16 then wInit B k else wNext (sched B k) k] = _
              rw [if_neg h16]
              unfold wNext
              rw [hy16, hy7, hy15, hy2]
            rw [← row_step B k _ hlt hv, ← next_val y16 y7 y15 y2 l15 l2]
          · exact below_set KN_9.2 (Nat.le_refl _)
        case measure => simp [intOf]; omega
    · have hk64 : k = 64 := by omega
      subst hk64
      have hgr := blk_below hg hbe
      have hL0 := (blk_cell hgr 0).trans (hgc 0 _ rfl)
      have hL1 := (blk_cell hgr 1).trans (hgc 1 _ rfl)
      have hL2 := (blk_cell hgr 2).trans (hgc 2 _ rfl)
      have hL3 := (blk_cell hgr 3).trans (hgc 3 _ rfl)
      have hL4 := (blk_cell hgr 4).trans (hgc 4 _ rfl)
      have hL5 := (blk_cell hgr 5).trans (hgc 5 _ rfl)
      have hL6 := (blk_cell hgr 6).trans (hgc 6 _ rfl)
      have hL7 := (blk_cell hgr 7).trans (hgc 7 _ rfl)
      have hxr : (wr.alloc (.cells #[.int .u32 (h0 : Int), .int .u32 (h1 : Int), .int .u32 (h2 : Int), .int .u32 (h3 : Int), .int .u32 (h4 : Int), .int .u32 (h5 : Int), .int .u32 (h6 : Int), .int .u32 (h7 : Int)] 36)).heap[wr.heap.size]? = some (.cells (u32s [h0, h1, h2, h3, h4, h5, h6, h7]).toArray 36 (0, 0)) := heap_alloc_new wr _
      go_wp2_with fail
      refine (rounds_calls _).mono ?_
      rintro e w2 ⟨rfl, hb2⟩
      have hKall := kV_at
      have hKs : kV.size = 64 := by unfold kV; rw [List.size_toArray, List.length_map]; rfl
      generalize kV = KA at hKall hKs ⊢
      have KX0 : KnowX w w2 wr.heap.size B (comp [h0, h1, h2, h3, h4, h5, h6, h7] B 0) := ⟨blk_below hxr hb2, blk_below (blk_alloc hrow _) hb2, Go.Proofs.Ythhandkckbnafaa.below_size (hbe.alloc hbe.size _) hb2⟩
      have hsz : w.heap.size < wr.heap.size := blk_lt hrow
      obtain ⟨gx, hgx⟩ : ∃ n, wr.heap.size = n := ⟨_, rfl⟩
      rw [hgx] at KX0 hsz
      go_wp2_with fail
      (try rw [hgx])
      clear hL0 hL1 hL2 hL3 hL4 hL5 hL6 hL7 hxr hgr hrow hbe hb2 hgx
      go_loopw [96] (fun s96 wy => ∃ k : Nat, k ≤ 64 ∧ s96 = .int .i64 (k : Int) ∧ KnowX w wy gx B (comp [h0, h1, h2, h3, h4, h5, h6, h7] B k)) (fun s96 _ => 64 - (intOf s96).toNat)
      case atStart => exact ⟨0, Nat.zero_le _, rfl, KX0⟩
      case round =>
        clear KX0
        obtain ⟨k, hk, rfl, KXr⟩ := hrel
        by_cases hlt : k < 64
        · obtain ⟨xa, xb, xc, xd, xe, xf, xg, xh, hX, la, lb, lc, ld, le, lf, lg, lh⟩ := comp_eight _ B hH k
          have hX1 : comp [h0, h1, h2, h3, h4, h5, h6, h7] B (k + 1) = stepL (comp [h0, h1, h2, h3, h4, h5, h6, h7] B k) (kN.getD k 0) ((sched B 64).getD k 0) := rfl
          rw [hX] at KXr hX1
          obtain ⟨kc, hkc⟩ : ∃ y, kN.getD k 0 = y := ⟨_, rfl⟩
          obtain ⟨wk, hwk⟩ : ∃ y, (sched B 64).getD k 0 = y := ⟨_, rfl⟩
          rw [hkc, hwk] at hX1
          have hK := hKall k hlt
          rw [hkc] at hK
          have hT13 : sha_turns.f 5 (xe : Int) [6, 11, 25] = some ((rot xe 6 ^^^ rot xe 11 ^^^ rot xe 25 : Nat) : Int) := turns3 xe 6 11 25 le (by decide) (by decide) (by decide)
          have hT14 : sha_turns.f 5 (xa : Int) [2, 13, 22] = some ((rot xa 2 ^^^ rot xa 13 ^^^ rot xa 22 : Nat) : Int) := turns3 xa 2 13 22 la (by decide) (by decide) (by decide)
          have hk0 : (0 : Int) ≤ (k : Int) := by omega
          have hk1 : (k : Int) < 64 := by omega
          have hix : ∀ w' : World, Sem.run Try.prog (Instr.index 71 (.agg KA) (.int .i64 (k : Int))) w' = .ok (.int .u32 (kc : Int)) w' := fun w' => index_u32 KA k kc hlt hK w'
          have AX1 := Aside0.mk hX1
          have AK := Aside0.mk hkc
          have AW := Aside0.mk hwk
          have AKX := Aside0.mk KXr
          have AT13 := Aside0.mk hT13
          have AT14 := Aside0.mk hT14
          clear hX1 hX hkc hwk hKall KXr hT13 hT14 hH
          clear hK
          have KX12 := AKX.out.drew
          go_wp2_with fail
          refine start_ (n := 6) (S := fun w' => w'.cell? ⟨gx, 0, none⟩ = some (.int .u32 (xa : Int)) ∧ w'.cell? ⟨gx, 4, none⟩ = some (.int .u32 (xe : Int))) (ds := []) #[false, false, false, false, false, false] (by kernel_rfl) rfl rfl ⟨((blk_cell KX12.1 0).trans rfl), ((blk_cell KX12.1 4).trans rfl)⟩ (fun hHeld => ?_)
          clear AKX
          generalize wr.drew = w12 at KX12 hHeld ⊢
          refine pure_ (i := 0) (N := some 100) (v := ?_) (a' := ?_) #[true, false, false, false, false, false] rfl rfl (by kernel_rfl) (fun _ _ _ h => h) (Or.inl ⟨by rfl, ?_⟩) ?_ ?_
          rotate_left
          · intro w'
            go_simp
            with_reducible rfl
          rotate_left
          · simp only [Act.put, List.setIfInBounds_toArray, List.set_cons_zero, List.set_cons_succ, i64_w, i32_w]
            rfl
          refine pure_ (i := 2) (N := some 102) (v := ?_) (a' := ?_) #[true, false, true, false, false, false] rfl rfl (by kernel_rfl) (fun _ _ _ h => h) (Or.inl ⟨by rfl, ?_⟩) ?_ ?_
          rotate_left
          · intro w'
            go_simp
            with_reducible rfl
          rotate_left
          · simp only [Act.put, List.setIfInBounds_toArray, List.set_cons_zero, List.set_cons_succ, i64_w, i32_w]
            rfl
          refine take_ (i := 1) (N := some 101) (v := ?_) (a' := ?_) #[true, true, true, false, false, false] rfl rfl (by kernel_rfl) (fun _ _ _ h => h) (Or.inl ⟨by rfl, ?_⟩) hHeld ?_ ?_
          rotate_left
          · rintro w' ⟨s0, s1⟩
            go_simp
            with_reducible rfl
          rotate_left
          · simp only [Act.put, List.setIfInBounds_toArray, List.set_cons_zero, List.set_cons_succ, i64_w, i32_w]
            rfl
          refine pure_ (i := 4) (N := some 9) (v := ?_) (a' := ?_) #[true, true, true, false, true, false] rfl rfl (by kernel_rfl) (fun _ _ _ h => h) (Or.inl ⟨by rfl, ?_⟩) ?_ ?_
          rotate_left
          · intro w'
            go_simp
            with_reducible rfl
          rotate_left
          · simp only [Act.put, List.setIfInBounds_toArray, List.set_cons_zero, List.set_cons_succ, i64_w, i32_w]
            rfl
          refine take_ (i := 3) (N := some 103) (v := ?_) (a' := ?_) #[true, true, true, true, true, false] rfl rfl (by kernel_rfl) (fun _ _ _ h => h) (Or.inl ⟨by rfl, ?_⟩) hHeld ?_ ?_
          rotate_left
          · rintro w' ⟨s0, s1⟩
            go_simp
            with_reducible rfl
          rotate_left
          · simp only [Act.put, List.setIfInBounds_toArray, List.set_cons_zero, List.set_cons_succ, i64_w, i32_w]
            rfl
          refine pure_ (i := 5) (N := some 10) (v := ?_) (a' := ?_) #[true, true, true, true, true, true] rfl rfl (by kernel_rfl) (fun _ _ _ h => h) (Or.inl ⟨by rfl, ?_⟩) ?_ ?_
          rotate_left
          · intro w'
            go_simp
            with_reducible rfl
          rotate_left
          · simp only [Act.put, List.setIfInBounds_toArray, List.set_cons_zero, List.set_cons_succ, i64_w, i32_w]
            rfl
          refine done_ (by kernel_rfl) ?_
          have KX13 := KX12.drew
          clear hHeld
          go_wp2_with fail
          refine start_ (n := 24) (S := fun w' => w'.cell? ⟨gx, 7, none⟩ = some (.int .u32 (xh : Int)) ∧ w'.cell? ⟨gx, 5, none⟩ = some (.int .u32 (xf : Int)) ∧ w'.cell? ⟨gx, 6, none⟩ = some (.int .u32 (xg : Int)) ∧ w'.cell? ⟨w.heap.size, k, none⟩ = some (.int .u32 (wk : Int))) (ds := []) #[false, false, false, false, false, false, false, false, false, false, false, false, false, false, false, false, false, false, false, false, false, false, false, false] (by kernel_rfl) rfl rfl ⟨((blk_cell KX13.1 7).trans rfl), ((blk_cell KX13.1 5).trans rfl), ((blk_cell KX13.1 6).trans rfl), (KX13.word hlt AW.out)⟩ (fun hHeld => ?_)
          have KX := KX13
          clear KX12 KX13
          generalize w12.drew = w13 at KX hHeld ⊢
          refine pure_ (i := 0) (N := some 104) (v := ?_) (a' := ?_) #[true, false, false, false, false, false, false, false, false, false, false, false, false, false, false, false, false, false, false, false, false, false, false, false] rfl rfl (by kernel_rfl) (fun _ _ _ h => h) (Or.inl ⟨by rfl, ?_⟩) ?_ ?_
          rotate_left
          · intro w'
            go_simp
            with_reducible rfl
          rotate_left
          · simp only [Act.put, List.setIfInBounds_toArray, List.set_cons_zero, List.set_cons_succ, i64_w, i32_w]
            rfl
          refine pure_ (i := 2) (N := some 106) (v := ?_) (a' := ?_) #[true, false, true, false, false, false, false, false, false, false, false, false, false, false, false, false, false, false, false, false, false, false, false, false] rfl rfl (by kernel_rfl) (fun _ _ _ h => h) (Or.inl ⟨by rfl, ?_⟩) ?_ ?_
          rotate_left
          · intro w'
            go_simp
            with_reducible rfl
          rotate_left
          · simp only [Act.put, List.setIfInBounds_toArray, List.set_cons_zero, List.set_cons_succ, i64_w, i32_w]
            rfl
          refine pure_ (i := 6) (N := some 110) (v := ?_) (a' := ?_) #[true, false, true, false, false, false, true, false, false, false, false, false, false, false, false, false, false, false, false, false, false, false, false, false] rfl rfl (by kernel_rfl) (fun _ _ _ h => h) (Or.inl ⟨by rfl, ?_⟩) ?_ ?_
          rotate_left
          · intro w'
            go_simp
            with_reducible rfl
          rotate_left
          · simp only [Act.put, List.setIfInBounds_toArray, List.set_cons_zero, List.set_cons_succ, i64_w, i32_w]
            rfl
          refine pure_ (i := 7) (N := some 111) (v := ?_) (a' := ?_) #[true, false, true, false, false, false, true, true, false, false, false, false, false, false, false, false, false, false, false, false, false, false, false, false] rfl rfl (by kernel_rfl) (fun _ _ _ h => h) (Or.inl ⟨by rfl, ?_⟩) ?_ ?_
          rotate_left
          · intro w'
            go_simp
            with_reducible rfl
          rotate_left
          · simp only [Act.put, List.setIfInBounds_toArray, List.set_cons_zero, List.set_cons_succ, i64_w, i32_w]
            rfl
          refine pure_ (i := 10) (N := some 114) (v := ?_) (a' := ?_) #[true, false, true, false, false, false, true, true, false, false, true, false, false, false, false, false, false, false, false, false, false, false, false, false] rfl rfl (by kernel_rfl) (fun _ _ _ h => h) (Or.inl ⟨by rfl, ?_⟩) ?_ ?_
          rotate_left
          · intro w'
            go_simp
            with_reducible rfl
          rotate_left
          · simp only [Act.put, List.setIfInBounds_toArray, List.set_cons_zero, List.set_cons_succ, i64_w, i32_w]
            rfl
          refine pure_ (i := 11) (N := some 115) (v := ?_) (a' := ?_) #[true, false, true, false, false, false, true, true, false, false, true, true, false, false, false, false, false, false, false, false, false, false, false, false] rfl rfl (by kernel_rfl) (fun _ _ _ h => h) (Or.inl ⟨by rfl, ?_⟩) ?_ ?_
          rotate_left
          · intro w'
            go_simp
            with_reducible rfl
          rotate_left
          · simp only [Act.put, List.setIfInBounds_toArray, List.set_cons_zero, List.set_cons_succ, i64_w, i32_w]
            rfl
          refine pure_ (i := 12) (N := some 116) (v := ?_) (a' := ?_) #[true, false, true, false, false, false, true, true, false, false, true, true, true, false, false, false, false, false, false, false, false, false, false, false] rfl rfl (by kernel_rfl) (fun _ _ _ h => h) (Or.inl ⟨by rfl, ?_⟩) ?_ ?_
          rotate_left
          · intro w'
            go_simp
            with_reducible rfl
          rotate_left
          · simp only [Act.put, List.setIfInBounds_toArray, List.set_cons_zero, List.set_cons_succ, i64_w, i32_w]
            rfl
          refine pure_ (i := 17) (N := some 121) (v := ?_) (a' := ?_) #[true, false, true, false, false, false, true, true, false, false, true, true, true, false, false, false, false, true, false, false, false, false, false, false] rfl rfl (by kernel_rfl) (fun _ _ _ h => h) (Or.inl ⟨by rfl, ?_⟩) ?_ ?_
          rotate_left
          · intro w'
            go_simp
            with_reducible rfl
          rotate_left
          · simp only [Act.put, List.setIfInBounds_toArray, List.set_cons_zero, List.set_cons_succ, i64_w, i32_w]
            rfl
          refine pure_ (i := 19) (N := some 123) (v := ?_) (a' := ?_) #[true, false, true, false, false, false, true, true, false, false, true, true, true, false, false, false, false, true, false, true, false, false, false, false] rfl rfl (by kernel_rfl) (fun _ _ _ h => h) (Or.inl ⟨by rfl, ?_⟩) ?_ ?_
          rotate_left
          · intro w'
            go_simp
            with_reducible rfl
          rotate_left
          · simp only [Act.put, List.setIfInBounds_toArray, List.set_cons_zero, List.set_cons_succ, i64_w, i32_w]
            rfl
          refine pure_ (i := 20) (N := some 124) (v := ?_) (a' := ?_) #[true, false, true, false, false, false, true, true, false, false, true, true, true, false, false, false, false, true, false, true, true, false, false, false] rfl rfl (by kernel_rfl) (fun _ _ _ h => h) (Or.inl ⟨by rfl, ?_⟩) ?_ ?_
          rotate_left
          · intro w'
            go_simp
            with_reducible rfl
          rotate_left
          · simp only [Act.put, List.setIfInBounds_toArray, List.set_cons_zero, List.set_cons_succ, i64_w, i32_w]
            rfl
          refine take_ (i := 1) (N := some 105) (v := ?_) (a' := ?_) #[true, true, true, false, false, false, true, true, false, false, true, true, true, false, false, false, false, true, false, true, true, false, false, false] rfl rfl (by kernel_rfl) (fun _ _ _ h => h) (Or.inl ⟨by rfl, ?_⟩) hHeld ?_ ?_
          rotate_left
          · rintro w' ⟨s0, s1, s2, s3⟩
            go_simp
            with_reducible rfl
          rotate_left
          · simp only [Act.put, List.setIfInBounds_toArray, List.set_cons_zero, List.set_cons_succ, i64_w, i32_w]
            rfl
          refine take_ (i := 8) (N := some 112) (v := ?_) (a' := ?_) #[true, true, true, false, false, false, true, true, true, false, true, true, true, false, false, false, false, true, false, true, true, false, false, false] rfl rfl (by kernel_rfl) (fun _ _ _ h => h) (Or.inl ⟨by rfl, ?_⟩) hHeld ?_ ?_
          rotate_left
          · rintro w' ⟨s0, s1, s2, s3⟩
            go_simp
            with_reducible rfl
          rotate_left
          · simp only [Act.put, List.setIfInBounds_toArray, List.set_cons_zero, List.set_cons_succ, i64_w, i32_w]
            rfl
          refine pure_ (i := 9) (N := some 113) (v := ?_) (a' := ?_) #[true, true, true, false, false, false, true, true, true, true, true, true, true, false, false, false, false, true, false, true, true, false, false, false] rfl rfl (by kernel_rfl) (fun _ _ _ h => h) (Or.inl ⟨by rfl, ?_⟩) ?_ ?_
          rotate_left
          · intro w'
            go_simp
            with_reducible rfl
          rotate_left
          · simp only [Act.put, List.setIfInBounds_toArray, List.set_cons_zero, List.set_cons_succ, i64_w, i32_w]
            rfl
          refine take_ (i := 13) (N := some 117) (v := ?_) (a' := ?_) #[true, true, true, false, false, false, true, true, true, true, true, true, true, true, false, false, false, true, false, true, true, false, false, false] rfl rfl (by kernel_rfl) (fun _ _ _ h => h) (Or.inl ⟨by rfl, ?_⟩) hHeld ?_ ?_
          rotate_left
          · rintro w' ⟨s0, s1, s2, s3⟩
            go_simp
            with_reducible rfl
          rotate_left
          · simp only [Act.put, List.setIfInBounds_toArray, List.set_cons_zero, List.set_cons_succ, i64_w, i32_w]
            rfl
          refine pure_ (i := 14) (N := some 118) (v := ?_) (a' := ?_) #[true, true, true, false, false, false, true, true, true, true, true, true, true, true, true, false, false, true, false, true, true, false, false, false] rfl rfl (by kernel_rfl) (fun _ _ _ h => h) (Or.inl ⟨by rfl, ?_⟩) ?_ ?_
          rotate_left
          · intro w'
            go_simp
            with_reducible rfl
          rotate_left
          · simp only [Act.put, List.setIfInBounds_toArray, List.set_cons_zero, List.set_cons_succ, i64_w, i32_w]
            rfl
          refine pure_ (i := 15) (N := some 119) (v := ?_) (a' := ?_) #[true, true, true, false, false, false, true, true, true, true, true, true, true, true, true, true, false, true, false, true, true, false, false, false] rfl rfl (by kernel_rfl) (fun _ _ _ h => h) (Or.inl ⟨by rfl, ?_⟩) ?_ ?_
          rotate_left
          · intro w'
            go_simp
            with_reducible rfl
          rotate_left
          · simp only [Act.put, List.setIfInBounds_toArray, List.set_cons_zero, List.set_cons_succ, i64_w, i32_w]
            rfl
          refine take_ (i := 21) (N := some 125) (v := ?_) (a' := ?_) #[true, true, true, false, false, false, true, true, true, true, true, true, true, true, true, true, false, true, false, true, true, true, false, false] rfl rfl (by kernel_rfl) (fun _ _ _ h => h) (Or.inl ⟨by rfl, ?_⟩) hHeld ?_ ?_
          rotate_left
          · rintro w' ⟨s0, s1, s2, s3⟩
            go_simp
            with_reducible rfl
          rotate_left
          · simp only [Act.put, List.setIfInBounds_toArray, List.set_cons_zero, List.set_cons_succ, i64_w, i32_w]
            rfl
          refine one_ (i := 3) (N := some 107) #[true, true, true, true, false, false, true, true, true, true, true, true, true, true, true, true, false, true, false, true, true, true, false, false] rfl rfl (by kernel_rfl) (by decide) (fun K hK => ?_)
          refine value_ (w1 := ?_) (v := ?_) (by rfl) rfl ?_ ?_
          rotate_left 2
          · go_simp
            constructor
            · rfl
            · rfl
          have KXa := KX.alloc (.cells #[.int .i64 6, .int .i64 11, .int .i64 25] 3)
          have L13 := lit3 w13 6 11 25 3
          generalize World.alloc w13 _ = w13a at KXa L13 ⊢
          refine hK.out _ _ ⟨((blk_cell KXa.1 7).trans rfl), ((blk_cell KXa.1 5).trans rfl), ((blk_cell KXa.1 6).trans rfl), (KXa.word hlt AW.out)⟩ (fun hHeld => ?_)
          clear hK K
          refine norm_ (a' := ?_) ?_ ?_
          rotate_left
          · show Act.put _ (some 107) _ = _
            simp only [Act.put, List.setIfInBounds_toArray, List.set_cons_zero, List.set_cons_succ, i64_w, i32_w]
            rfl
          refine one_ (i := 4) (N := some 108) #[true, true, true, true, true, false, true, true, true, true, true, true, true, true, true, true, false, true, false, true, true, true, false, false] rfl rfl (by kernel_rfl) (by decide) (fun K hK => ?_)
          refine goes_ Try.func41 (by kernel_rfl) rfl #[.int .u32 (xe : Int), .slice (some ⟨w13.heap.size, 0, none⟩) 3 3] (by rfl) rfl rfl (by simp only [List.map_toArray, List.map_cons, List.map_nil]; rfl) ?_
          with_reducible refine (turns_calls3 _ _ _ _ _ _ _ L13 AT13.out).mono ?_
          rintro ee w13b ⟨rfl, hd_⟩
          refine ⟨_, rfl, ?_⟩
          have KXb := KXa.below hd_.below
          refine hK.out _ _ ⟨((blk_cell KXb.1 7).trans rfl), ((blk_cell KXb.1 5).trans rfl), ((blk_cell KXb.1 6).trans rfl), (KXb.word hlt AW.out)⟩ (fun hHeld => ?_)
          clear hK K
          refine norm_ (a' := ?_) ?_ ?_
          rotate_left
          · show Act.put _ (some 108) _ = _
            simp only [Act.put, List.setIfInBounds_toArray, List.set_cons_zero, List.set_cons_succ, i64_w, i32_w]
            rfl
          refine pure_ (i := 5) (N := some 109) (v := ?_) (a' := ?_) #[true, true, true, true, true, true, true, true, true, true, true, true, true, true, true, true, false, true, false, true, true, true, false, false] rfl rfl (by kernel_rfl) (fun _ _ _ h => h) (Or.inl ⟨by rfl, ?_⟩) ?_ ?_
          rotate_left
          · intro w'
            go_simp
            with_reducible rfl
          rotate_left
          · simp only [Act.put, List.setIfInBounds_toArray, List.set_cons_zero, List.set_cons_succ, i64_w, i32_w]
            rfl
          refine pure_ (i := 16) (N := some 120) (v := ?_) (a' := ?_) #[true, true, true, true, true, true, true, true, true, true, true, true, true, true, true, true, true, true, false, true, true, true, false, false] rfl rfl (by kernel_rfl) (fun _ _ _ h => h) (Or.inl ⟨by rfl, ?_⟩) ?_ ?_
          rotate_left
          · intro w'
            go_simp
            with_reducible rfl
          rotate_left
          · simp only [Act.put, List.setIfInBounds_toArray, List.set_cons_zero, List.set_cons_succ, i64_w, i32_w]
            rfl
          refine pure_ (i := 18) (N := some 122) (v := ?_) (a' := ?_) #[true, true, true, true, true, true, true, true, true, true, true, true, true, true, true, true, true, true, true, true, true, true, false, false] rfl rfl (by kernel_rfl) (fun _ _ _ h => h) (Or.inl ⟨by rfl, ?_⟩) ?_ ?_
          rotate_left
          · intro w'
            go_simp
            with_reducible rfl
          rotate_left
          · simp only [Act.put, List.setIfInBounds_toArray, List.set_cons_zero, List.set_cons_succ, i64_w, i32_w]
            rfl
          refine pure_ (i := 22) (N := some 126) (v := ?_) (a' := ?_) #[true, true, true, true, true, true, true, true, true, true, true, true, true, true, true, true, true, true, true, true, true, true, true, false] rfl rfl (by kernel_rfl) (fun _ _ _ h => h) (Or.inl ⟨by rfl, ?_⟩) ?_ ?_
          rotate_left
          · intro w'
            go_simp
            with_reducible rfl
          rotate_left
          · simp only [Act.put, List.setIfInBounds_toArray, List.set_cons_zero, List.set_cons_succ, i64_w, i32_w]
            rfl
          refine pure_ (i := 23) (N := some 11) (v := ?_) (a' := ?_) #[true, true, true, true, true, true, true, true, true, true, true, true, true, true, true, true, true, true, true, true, true, true, true, true] rfl rfl (by kernel_rfl) (fun _ _ _ h => h) (Or.inl ⟨by rfl, ?_⟩) ?_ ?_
          rotate_left
          · intro w'
            go_simp
            with_reducible rfl
          rotate_left
          · simp only [Act.put, List.setIfInBounds_toArray, List.set_cons_zero, List.set_cons_succ, i64_w, i32_w]
            rfl
          refine done_ (by kernel_rfl) ?_
          have KX14 := KXb.drew
          clear hHeld
          go_wp2_with fail
          refine start_ (n := 20) (S := fun w' => w'.cell? ⟨gx, 1, none⟩ = some (.int .u32 (xb : Int)) ∧ w'.cell? ⟨gx, 2, none⟩ = some (.int .u32 (xc : Int))) (ds := []) #[false, false, false, false, false, false, false, false, false, false, false, false, false, false, false, false, false, false, false, false] (by kernel_rfl) rfl rfl ⟨((blk_cell KX14.1 1).trans rfl), ((blk_cell KX14.1 2).trans rfl)⟩ (fun hHeld => ?_)
          have KX := KX14
          clear KX14
          generalize w13b.drew = w14 at KX hHeld ⊢
          refine pure_ (i := 0) (N := some 127) (v := ?_) (a' := ?_) #[true, false, false, false, false, false, false, false, false, false, false, false, false, false, false, false, false, false, false, false] rfl rfl (by kernel_rfl) (fun _ _ _ h => h) (Or.inl ⟨by rfl, ?_⟩) ?_ ?_
          rotate_left
          · intro w'
            go_simp
            with_reducible rfl
          rotate_left
          · simp only [Act.put, List.setIfInBounds_toArray, List.set_cons_zero, List.set_cons_succ, i64_w, i32_w]
            rfl
          refine pure_ (i := 3) (N := some 130) (v := ?_) (a' := ?_) #[true, false, false, true, false, false, false, false, false, false, false, false, false, false, false, false, false, false, false, false] rfl rfl (by kernel_rfl) (fun _ _ _ h => h) (Or.inl ⟨by rfl, ?_⟩) ?_ ?_
          rotate_left
          · intro w'
            go_simp
            with_reducible rfl
          rotate_left
          · simp only [Act.put, List.setIfInBounds_toArray, List.set_cons_zero, List.set_cons_succ, i64_w, i32_w]
            rfl
          refine pure_ (i := 4) (N := some 131) (v := ?_) (a' := ?_) #[true, false, false, true, true, false, false, false, false, false, false, false, false, false, false, false, false, false, false, false] rfl rfl (by kernel_rfl) (fun _ _ _ h => h) (Or.inl ⟨by rfl, ?_⟩) ?_ ?_
          rotate_left
          · intro w'
            go_simp
            with_reducible rfl
          rotate_left
          · simp only [Act.put, List.setIfInBounds_toArray, List.set_cons_zero, List.set_cons_succ, i64_w, i32_w]
            rfl
          refine pure_ (i := 7) (N := some 134) (v := ?_) (a' := ?_) #[true, false, false, true, true, false, false, true, false, false, false, false, false, false, false, false, false, false, false, false] rfl rfl (by kernel_rfl) (fun _ _ _ h => h) (Or.inl ⟨by rfl, ?_⟩) ?_ ?_
          rotate_left
          · intro w'
            go_simp
            with_reducible rfl
          rotate_left
          · simp only [Act.put, List.setIfInBounds_toArray, List.set_cons_zero, List.set_cons_succ, i64_w, i32_w]
            rfl
          refine pure_ (i := 8) (N := some 135) (v := ?_) (a' := ?_) #[true, false, false, true, true, false, false, true, true, false, false, false, false, false, false, false, false, false, false, false] rfl rfl (by kernel_rfl) (fun _ _ _ h => h) (Or.inl ⟨by rfl, ?_⟩) ?_ ?_
          rotate_left
          · intro w'
            go_simp
            with_reducible rfl
          rotate_left
          · simp only [Act.put, List.setIfInBounds_toArray, List.set_cons_zero, List.set_cons_succ, i64_w, i32_w]
            rfl
          refine pure_ (i := 12) (N := some 139) (v := ?_) (a' := ?_) #[true, false, false, true, true, false, false, true, true, false, false, false, true, false, false, false, false, false, false, false] rfl rfl (by kernel_rfl) (fun _ _ _ h => h) (Or.inl ⟨by rfl, ?_⟩) ?_ ?_
          rotate_left
          · intro w'
            go_simp
            with_reducible rfl
          rotate_left
          · simp only [Act.put, List.setIfInBounds_toArray, List.set_cons_zero, List.set_cons_succ, i64_w, i32_w]
            rfl
          refine pure_ (i := 14) (N := some 141) (v := ?_) (a' := ?_) #[true, false, false, true, true, false, false, true, true, false, false, false, true, false, true, false, false, false, false, false] rfl rfl (by kernel_rfl) (fun _ _ _ h => h) (Or.inl ⟨by rfl, ?_⟩) ?_ ?_
          rotate_left
          · intro w'
            go_simp
            with_reducible rfl
          rotate_left
          · simp only [Act.put, List.setIfInBounds_toArray, List.set_cons_zero, List.set_cons_succ, i64_w, i32_w]
            rfl
          refine take_ (i := 5) (N := some 132) (v := ?_) (a' := ?_) #[true, false, false, true, true, true, false, true, true, false, false, false, true, false, true, false, false, false, false, false] rfl rfl (by kernel_rfl) (fun _ _ _ h => h) (Or.inl ⟨by rfl, ?_⟩) hHeld ?_ ?_
          rotate_left
          · rintro w' ⟨s0, s1⟩
            go_simp
            with_reducible rfl
          rotate_left
          · simp only [Act.put, List.setIfInBounds_toArray, List.set_cons_zero, List.set_cons_succ, i64_w, i32_w]
            rfl
          refine pure_ (i := 6) (N := some 133) (v := ?_) (a' := ?_) #[true, false, false, true, true, true, true, true, true, false, false, false, true, false, true, false, false, false, false, false] rfl rfl (by kernel_rfl) (fun _ _ _ h => h) (Or.inl ⟨by rfl, ?_⟩) ?_ ?_
          rotate_left
          · intro w'
            go_simp
            with_reducible rfl
          rotate_left
          · simp only [Act.put, List.setIfInBounds_toArray, List.set_cons_zero, List.set_cons_succ, i64_w, i32_w]
            rfl
          refine take_ (i := 9) (N := some 136) (v := ?_) (a' := ?_) #[true, false, false, true, true, true, true, true, true, true, false, false, true, false, true, false, false, false, false, false] rfl rfl (by kernel_rfl) (fun _ _ _ h => h) (Or.inl ⟨by rfl, ?_⟩) hHeld ?_ ?_
          rotate_left
          · rintro w' ⟨s0, s1⟩
            go_simp
            with_reducible rfl
          rotate_left
          · simp only [Act.put, List.setIfInBounds_toArray, List.set_cons_zero, List.set_cons_succ, i64_w, i32_w]
            rfl
          refine pure_ (i := 10) (N := some 137) (v := ?_) (a' := ?_) #[true, false, false, true, true, true, true, true, true, true, true, false, true, false, true, false, false, false, false, false] rfl rfl (by kernel_rfl) (fun _ _ _ h => h) (Or.inl ⟨by rfl, ?_⟩) ?_ ?_
          rotate_left
          · intro w'
            go_simp
            with_reducible rfl
          rotate_left
          · simp only [Act.put, List.setIfInBounds_toArray, List.set_cons_zero, List.set_cons_succ, i64_w, i32_w]
            rfl
          refine pure_ (i := 11) (N := some 138) (v := ?_) (a' := ?_) #[true, false, false, true, true, true, true, true, true, true, true, true, true, false, true, false, false, false, false, false] rfl rfl (by kernel_rfl) (fun _ _ _ h => h) (Or.inl ⟨by rfl, ?_⟩) ?_ ?_
          rotate_left
          · intro w'
            go_simp
            with_reducible rfl
          rotate_left
          · simp only [Act.put, List.setIfInBounds_toArray, List.set_cons_zero, List.set_cons_succ, i64_w, i32_w]
            rfl
          refine take_ (i := 13) (N := some 140) (v := ?_) (a' := ?_) #[true, false, false, true, true, true, true, true, true, true, true, true, true, true, true, false, false, false, false, false] rfl rfl (by kernel_rfl) (fun _ _ _ h => h) (Or.inl ⟨by rfl, ?_⟩) hHeld ?_ ?_
          rotate_left
          · rintro w' ⟨s0, s1⟩
            go_simp
            with_reducible rfl
          rotate_left
          · simp only [Act.put, List.setIfInBounds_toArray, List.set_cons_zero, List.set_cons_succ, i64_w, i32_w]
            rfl
          refine take_ (i := 15) (N := some 142) (v := ?_) (a' := ?_) #[true, false, false, true, true, true, true, true, true, true, true, true, true, true, true, true, false, false, false, false] rfl rfl (by kernel_rfl) (fun _ _ _ h => h) (Or.inl ⟨by rfl, ?_⟩) hHeld ?_ ?_
          rotate_left
          · rintro w' ⟨s0, s1⟩
            go_simp
            with_reducible rfl
          rotate_left
          · simp only [Act.put, List.setIfInBounds_toArray, List.set_cons_zero, List.set_cons_succ, i64_w, i32_w]
            rfl
          refine pure_ (i := 16) (N := some 143) (v := ?_) (a' := ?_) #[true, false, false, true, true, true, true, true, true, true, true, true, true, true, true, true, true, false, false, false] rfl rfl (by kernel_rfl) (fun _ _ _ h => h) (Or.inl ⟨by rfl, ?_⟩) ?_ ?_
          rotate_left
          · intro w'
            go_simp
            with_reducible rfl
          rotate_left
          · simp only [Act.put, List.setIfInBounds_toArray, List.set_cons_zero, List.set_cons_succ, i64_w, i32_w]
            rfl
          refine pure_ (i := 17) (N := some 144) (v := ?_) (a' := ?_) #[true, false, false, true, true, true, true, true, true, true, true, true, true, true, true, true, true, true, false, false] rfl rfl (by kernel_rfl) (fun _ _ _ h => h) (Or.inl ⟨by rfl, ?_⟩) ?_ ?_
          rotate_left
          · intro w'
            go_simp
            with_reducible rfl
          rotate_left
          · simp only [Act.put, List.setIfInBounds_toArray, List.set_cons_zero, List.set_cons_succ, i64_w, i32_w]
            rfl
          refine one_ (i := 1) (N := some 128) #[true, true, false, true, true, true, true, true, true, true, true, true, true, true, true, true, true, true, false, false] rfl rfl (by kernel_rfl) (by decide) (fun K hK => ?_)
          refine value_ (w1 := ?_) (v := ?_) (by rfl) rfl ?_ ?_
          rotate_left 2
          · go_simp
            constructor
            · rfl
            · rfl
          have KXc := KX.alloc (.cells #[.int .i64 2, .int .i64 13, .int .i64 22] 3)
          have L14 := lit3 w14 2 13 22 3
          generalize World.alloc w14 _ = w14a at KXc L14 ⊢
          refine hK.out _ _ ⟨((blk_cell KXc.1 1).trans rfl), ((blk_cell KXc.1 2).trans rfl)⟩ (fun hHeld => ?_)
          clear hK K
          refine norm_ (a' := ?_) ?_ ?_
          rotate_left
          · show Act.put _ (some 128) _ = _
            simp only [Act.put, List.setIfInBounds_toArray, List.set_cons_zero, List.set_cons_succ, i64_w, i32_w]
            rfl
          refine one_ (i := 2) (N := some 129) #[true, true, true, true, true, true, true, true, true, true, true, true, true, true, true, true, true, true, false, false] rfl rfl (by kernel_rfl) (by decide) (fun K hK => ?_)
          refine goes_ Try.func41 (by kernel_rfl) rfl #[.int .u32 (xa : Int), .slice (some ⟨w14.heap.size, 0, none⟩) 3 3] (by rfl) rfl rfl (by simp only [List.map_toArray, List.map_cons, List.map_nil]; rfl) ?_
          with_reducible refine (turns_calls3 _ _ _ _ _ _ _ L14 AT14.out).mono ?_
          rintro ee w14b ⟨rfl, hd_⟩
          refine ⟨_, rfl, ?_⟩
          have KXd := KXc.below hd_.below
          refine hK.out _ _ ⟨((blk_cell KXd.1 1).trans rfl), ((blk_cell KXd.1 2).trans rfl)⟩ (fun hHeld => ?_)
          clear hK K
          refine norm_ (a' := ?_) ?_ ?_
          rotate_left
          · show Act.put _ (some 129) _ = _
            simp only [Act.put, List.setIfInBounds_toArray, List.set_cons_zero, List.set_cons_succ, i64_w, i32_w]
            rfl
          refine pure_ (i := 18) (N := some 145) (v := ?_) (a' := ?_) #[true, true, true, true, true, true, true, true, true, true, true, true, true, true, true, true, true, true, true, false] rfl rfl (by kernel_rfl) (fun _ _ _ h => h) (Or.inl ⟨by rfl, ?_⟩) ?_ ?_
          rotate_left
          · intro w'
            go_simp
            with_reducible rfl
          rotate_left
          · simp only [Act.put, List.setIfInBounds_toArray, List.set_cons_zero, List.set_cons_succ, i64_w, i32_w]
            rfl
          refine pure_ (i := 19) (N := some 12) (v := ?_) (a' := ?_) #[true, true, true, true, true, true, true, true, true, true, true, true, true, true, true, true, true, true, true, true] rfl rfl (by kernel_rfl) (fun _ _ _ h => h) (Or.inl ⟨by rfl, ?_⟩) ?_ ?_
          rotate_left
          · intro w'
            go_simp
            with_reducible rfl
          rotate_left
          · simp only [Act.put, List.setIfInBounds_toArray, List.set_cons_zero, List.set_cons_succ, i64_w, i32_w]
            rfl
          refine done_ (by kernel_rfl) ?_
          clear hHeld
          rw [t_val xe xf xg xh kc wk le lf lg, u_val xa xb xc la lb lc]
          obtain ⟨tv, htv⟩ : ∃ y, tN xe xf xg xh kc wk = y := ⟨_, rfl⟩
          obtain ⟨uv, huv⟩ : ∃ y, uN xa xb xc = y := ⟨_, rfl⟩
          rw [htv, huv]
          have ATV := Aside0.mk htv
          have AUV := Aside0.mk huv
          clear htv huv
          have c0 : w14b.cell? ⟨gx, 0, none⟩ = some (.int .u32 (xa : Int)) := (blk_cell KXd.1 0).trans rfl
          have c1 : w14b.cell? ⟨gx, 1, none⟩ = some (.int .u32 (xb : Int)) := (blk_cell KXd.1 1).trans rfl
          have c2 : w14b.cell? ⟨gx, 2, none⟩ = some (.int .u32 (xc : Int)) := (blk_cell KXd.1 2).trans rfl
          have c3 : w14b.cell? ⟨gx, 3, none⟩ = some (.int .u32 (xd : Int)) := (blk_cell KXd.1 3).trans rfl
          have c4 : w14b.cell? ⟨gx, 4, none⟩ = some (.int .u32 (xe : Int)) := (blk_cell KXd.1 4).trans rfl
          have c5 : w14b.cell? ⟨gx, 5, none⟩ = some (.int .u32 (xf : Int)) := (blk_cell KXd.1 5).trans rfl
          have c6 : w14b.cell? ⟨gx, 6, none⟩ = some (.int .u32 (xg : Int)) := (blk_cell KXd.1 6).trans rfl
          have c7 : w14b.cell? ⟨gx, 7, none⟩ = some (.int .u32 (xh : Int)) := (blk_cell KXd.1 7).trans rfl
          have hs8 : (Try.prog.info? 36).map (·.size) = some 8 := by kernel_rfl
          go_wp2_with (refine wpList_store_row rfl 36 (.tmp 6) (.tmp 163) rfl gx _ rfl rfl 36 _ KXd.1 hs8 rfl (all_oneCell_toArray (fun v hv => by simp only [List.mem_cons, List.not_mem_nil, or_false] at hv; rcases hv with rfl | rfl | rfl | rfl | rfl | rfl | rfl | rfl <;> rfl)) ?_)
          go_roundw
          case rel =>
            refine ⟨k + 1, by omega, by go_num, ?_⟩
            rw [AX1.out, stepL_eq, ATV.out, AUV.out]
            exact KXd.set hsz (step_arr xa xb xc xd xe xf xg tv uv)
          case measure => simp [intOf]; omega
        · have hk64 : k = 64 := by omega
          subst hk64
          go_wp2_with fail
          clear hKall
          have hgw := blk_lt hg
          have hX64 := comp_eight [h0, h1, h2, h3, h4, h5, h6, h7] B hH 64
          have hnx : nextH [h0, h1, h2, h3, h4, h5, h6, h7] B = addL [h0, h1, h2, h3, h4, h5, h6, h7] (comp [h0, h1, h2, h3, h4, h5, h6, h7] B 64) 8 := rfl
          have hX8 : (comp [h0, h1, h2, h3, h4, h5, h6, h7] B 64).length = 8 := by obtain ⟨_, _, _, _, _, _, _, _, hX, _⟩ := hX64; rw [hX]; rfl
          have AN := Aside0.mk hnx
          clear hnx hX64
          generalize comp [h0, h1, h2, h3, h4, h5, h6, h7] B 64 = X at KXr hX8 AN
          have hne : gx ≠ g := by omega
          have K30 : Know3 w wr g gx X (addL [h0, h1, h2, h3, h4, h5, h6, h7] X 0) tl tg := by
            refine ⟨KXr.1, (blk_below hg KXr.2.2).trans ?_, ⟨KXr.2.2.os, KXr.2.2.tape, KXr.2.2.output, KXr.2.2.size, fun j hj _ => KXr.2.2.block j hj⟩⟩
            rw [← AG.out]; rfl
          have hL8 : [h0, h1, h2, h3, h4, h5, h6, h7].length = 8 := rfl
          clear KXr hg hgc hr hH
          generalize hHe : [h0, h1, h2, h3, h4, h5, h6, h7] = H at K30 AG AN hL8
          have AH := Aside0.mk hHe
          clear hHe
          go_loopw [165] (fun s165 wz => ∃ k : Nat, k ≤ 8 ∧ s165 = .int .i64 (k : Int) ∧ Know3 w wz g gx X (addL H X k) tl tg) (fun s165 _ => 8 - (intOf s165).toNat)
          case atStart => exact ⟨0, Nat.zero_le _, rfl, K30⟩
          case round =>
            clear K30
            obtain ⟨k, hk, rfl, K3⟩ := hrel
            by_cases hlt : k < 8
            · obtain ⟨y, hy⟩ : ∃ y, H.getD k 0 = y := ⟨_, rfl⟩
              obtain ⟨x, hx⟩ : ∃ x, X.getD k 0 = x := ⟨_, rfl⟩
              have hk0 : (0 : Int) ≤ (k : Int) := by omega
              have hk1 : (k : Int) < 8 := by omega
              have hkl : k < (addL H X k).length := by rw [addL_length, hL8]; exact hlt
              have hs1 : addL H X (k + 1) = (addL H X k).set k ((y + x) % 4294967296) := by rw [← hy, ← hx]; rfl
              have cy := (blk_cell K3.drew.2.1 k).trans ((u32s_at _ tl k hkl).trans (by rw [addL_at H X k k (Nat.le_refl _), hy]))
              have cx := (blk_cell K3.drew.1 k).trans ((congrArg (fun l : List Value => l.toArray[k]?) (List.append_nil (u32s X)).symm).trans ((u32s_at X [] k (by rw [hX8]; exact hlt)).trans (by rw [hx])))
              have cf := blk_frozen K3.drew.2.1 k
              have AS := Aside0.mk hs1
              have AK3 := Aside0.mk K3
              clear hs1 hy hx K3
              go_wp2_with fail
              refine start_ (n := 12) (S := fun w' => w'.cell? ⟨g, k, none⟩ = some (.int .u32 (y : Int)) ∧ w'.cell? ⟨gx, k, none⟩ = some (.int .u32 (x : Int))) (ds := [11]) #[false, false, false, false, false, false, false, false, false, false, false, false] (by kernel_rfl) rfl rfl ⟨cy, cx⟩ (fun hHeld => ?_)
              have K3 := AK3.out.drew
              generalize wr.drew = w20 at K3 cf hHeld ⊢
              refine pure_ (i := 0) (N := some 168) (v := ?_) (a' := ?_) #[true, false, false, false, false, false, false, false, false, false, false, false] rfl rfl (by kernel_rfl) (fun _ _ _ h => h) (Or.inl ⟨by rfl, ?_⟩) ?_ ?_
              rotate_left
              · intro w'
                go_simp
                with_reducible rfl
              rotate_left
              · simp only [Act.put, List.setIfInBounds_toArray, List.set_cons_zero, List.set_cons_succ, i64_w, i32_w]
                rfl
              refine pure_ (i := 1) (N := some 169) (v := ?_) (a' := ?_) #[true, true, false, false, false, false, false, false, false, false, false, false] rfl rfl (by kernel_rfl) (fun _ _ _ h => h) (Or.inl ⟨by rfl, ?_⟩) ?_ ?_
              rotate_left
              · intro w'
                go_simp
                with_reducible rfl
              rotate_left
              · simp only [Act.put, List.setIfInBounds_toArray, List.set_cons_zero, List.set_cons_succ, i64_w, i32_w]
                rfl
              refine pure_ (i := 2) (N := some 170) (v := ?_) (a' := ?_) #[true, true, true, false, false, false, false, false, false, false, false, false] rfl rfl (by kernel_rfl) (fun _ _ _ h => h) (Or.inl ⟨by rfl, ?_⟩) ?_ ?_
              rotate_left
              · intro w'
                go_simp
                with_reducible rfl
              rotate_left
              · simp only [Act.put, List.setIfInBounds_toArray, List.set_cons_zero, List.set_cons_succ, i64_w, i32_w]
                rfl
              refine pure_ (i := 3) (N := some 171) (v := ?_) (a' := ?_) #[true, true, true, true, false, false, false, false, false, false, false, false] rfl rfl (by kernel_rfl) (fun _ _ _ h => h) (Or.inl ⟨by rfl, ?_⟩) ?_ ?_
              rotate_left
              · intro w'
                go_simp
                with_reducible rfl
              rotate_left
              · simp only [Act.put, List.setIfInBounds_toArray, List.set_cons_zero, List.set_cons_succ, i64_w, i32_w]
                rfl
              refine pure_ (i := 5) (N := some 173) (v := ?_) (a' := ?_) #[true, true, true, true, false, true, false, false, false, false, false, false] rfl rfl (by kernel_rfl) (fun _ _ _ h => h) (Or.inl ⟨by rfl, ?_⟩) ?_ ?_
              rotate_left
              · intro w'
                go_simp
                with_reducible rfl
              rotate_left
              · simp only [Act.put, List.setIfInBounds_toArray, List.set_cons_zero, List.set_cons_succ, i64_w, i32_w]
                rfl
              refine pure_ (i := 6) (N := some 174) (v := ?_) (a' := ?_) #[true, true, true, true, false, true, true, false, false, false, false, false] rfl rfl (by kernel_rfl) (fun _ _ _ h => h) (Or.inl ⟨by rfl, ?_⟩) ?_ ?_
              rotate_left
              · intro w'
                go_simp
                with_reducible rfl
              rotate_left
              · simp only [Act.put, List.setIfInBounds_toArray, List.set_cons_zero, List.set_cons_succ, i64_w, i32_w]
                rfl
              refine pure_ (i := 9) (N := some 177) (v := ?_) (a' := ?_) #[true, true, true, true, false, true, true, false, false, true, false, false] rfl rfl (by kernel_rfl) (fun _ _ _ h => h) (Or.inl ⟨by rfl, ?_⟩) ?_ ?_
              rotate_left
              · intro w'
                go_simp
                with_reducible rfl
              rotate_left
              · simp only [Act.put, List.setIfInBounds_toArray, List.set_cons_zero, List.set_cons_succ, i64_w, i32_w]
                rfl
              refine take_ (i := 4) (N := some 172) (v := ?_) (a' := ?_) #[true, true, true, true, true, true, true, false, false, true, false, false] rfl rfl (by kernel_rfl) (fun _ _ _ h => h) (Or.inl ⟨by rfl, ?_⟩) hHeld ?_ ?_
              rotate_left
              · rintro w' ⟨s0, s1⟩
                go_simp
                with_reducible rfl
              rotate_left
              · simp only [Act.put, List.setIfInBounds_toArray, List.set_cons_zero, List.set_cons_succ, i64_w, i32_w]
                rfl
              refine take_ (i := 7) (N := some 175) (v := ?_) (a' := ?_) #[true, true, true, true, true, true, true, true, false, true, false, false] rfl rfl (by kernel_rfl) (fun _ _ _ h => h) (Or.inl ⟨by rfl, ?_⟩) hHeld ?_ ?_
              rotate_left
              · rintro w' ⟨s0, s1⟩
                go_simp
                with_reducible rfl
              rotate_left
              · simp only [Act.put, List.setIfInBounds_toArray, List.set_cons_zero, List.set_cons_succ, i64_w, i32_w]
                rfl
              refine pure_ (i := 8) (N := some 176) (v := ?_) (a' := ?_) #[true, true, true, true, true, true, true, true, true, true, false, false] rfl rfl (by kernel_rfl) (fun _ _ _ h => h) (Or.inl ⟨by rfl, ?_⟩) ?_ ?_
              rotate_left
              · intro w'
                go_simp
                with_reducible rfl
              rotate_left
              · simp only [Act.put, List.setIfInBounds_toArray, List.set_cons_zero, List.set_cons_succ, i64_w, i32_w]
                rfl
              refine pure_ (i := 10) (N := some 178) (v := ?_) (a' := ?_) #[true, true, true, true, true, true, true, true, true, true, true, false] rfl rfl (by kernel_rfl) (fun _ _ _ h => h) (Or.inl ⟨by rfl, ?_⟩) ?_ ?_
              rotate_left
              · intro w'
                go_simp
                with_reducible rfl
              rotate_left
              · simp only [Act.put, List.setIfInBounds_toArray, List.set_cons_zero, List.set_cons_succ, i64_w, i32_w]
                rfl
              refine last_ (i := 11) (N := none) #[true, true, true, true, true, true, true, true, true, true, true, true] rfl rfl (by kernel_rfl) (by decide) (fun K hK => ?_)
              refine skip_ (w1 := ?_) (by rfl) rfl ?_ ?_
              rotate_left
              · go_simp
                rfl
              refine hK.out _ _ ?_
              clear hK K
              refine done_ (by kernel_rfl) ?_
              go_wp2_with fail
              go_roundw
              case rel =>
                refine ⟨k + 1, by omega, by go_num, ?_⟩
                rw [AS.out]
                exact K3.put hne k x y hkl
              case measure => simp [intOf]; omega
            · have hk8 : k = 8 := by omega
              subst hk8
              go_wp2_with fail
              go_end0
              rw [AH.out, AN.out]
              exact ⟨rfl, K3.2.1, K3.2.2⟩
end
end Go.Proofs.YthhandkckbnafaaZ.ZA
