/-
  PackBack: the walk.
-/
import Derived.Test.YtgdemfjlhcepiaaPackWrites
import Derived.Great.BuildSlice
import Derived.Stop.BytesEq
import Derived.Deep.MidRow
set_option linter.unusedVariables false
set_option linter.unusedSimpArgs false
namespace Go.Proofs.Ytgdemfjlhcepiaa
open Go.RowKit
attribute [local go_sem] eq_bytes_nil
/-! ### what is written, and cut off -/
def chN (l : List Nat) (i : Nat) : List UInt8 := match l[i]? with | some x => encN x | none => []
def chB (l : List (List UInt8)) (i : Nat) : List UInt8 := match l[i]? with | some x => encB x ++ encB x | none => []
def chS (l : List (List UInt8)) (i : Nat) : List UInt8 := match l[i]? with | some x => x | none => []
def chunk (l1 : List Nat) (l2 l3 : List (List UInt8)) (i : Nat) : List UInt8 := chN l1 i ++ (chB l2 i ++ chS l3 i)
def wrote (l1 : List Nat) (l2 l3 : List (List UInt8)) (k : Nat) : List UInt8 := (List.range k).flatMap (chunk l1 l2 l3)
def left (l1 : List Nat) (l2 l3 : List (List UInt8)) (k : Nat) : List UInt8 := (List.range' k (500 - k)).flatMap (chunk l1 l2 l3)
theorem wrote_succ (l1 : List Nat) (l2 l3 : List (List UInt8)) (k : Nat) : wrote l1 l2 l3 (k + 1) = wrote l1 l2 l3 k ++ chunk l1 l2 l3 k := by
  unfold wrote
  rw [List.range_succ, List.flatMap_append]
  simp
theorem left_all (l1 : List Nat) (l2 l3 : List (List UInt8)) : wrote l1 l2 l3 500 = left l1 l2 l3 0 := by unfold wrote left; rw [List.range_eq_range']
theorem left_succ (l1 : List Nat) (l2 l3 : List (List UInt8)) (k : Nat) (h : k < 500) : left l1 l2 l3 k = chN l1 k ++ (chB l2 k ++ (chS l3 k ++ left l1 l2 l3 (k + 1))) := by
  unfold left
  rw [show 500 - k = (500 - (k + 1)) + 1 by omega, List.range'_succ, List.flatMap_cons]
  unfold chunk
  simp only [List.append_assoc]
theorem left_end (l1 : List Nat) (l2 l3 : List (List UInt8)) : left l1 l2 l3 500 = [] := rfl
theorem chN_in {l : List Nat} {k : Nat} (h : k < l.length) : chN l k = encN l[k] := by unfold chN; rw [List.getElem?_eq_getElem h]
theorem chN_out {l : List Nat} {k : Nat} (h : ¬ k < l.length) : chN l k = [] := by unfold chN; rw [List.getElem?_eq_none (by omega)]
theorem chB_in {l : List (List UInt8)} {k : Nat} (h : k < l.length) : chB l k = encB l[k] ++ encB l[k] := by unfold chB; rw [List.getElem?_eq_getElem h]
theorem chB_out {l : List (List UInt8)} {k : Nat} (h : ¬ k < l.length) : chB l k = [] := by unfold chB; rw [List.getElem?_eq_none (by omega)]
theorem chS_in {l : List (List UInt8)} {k : Nat} (h : k < l.length) : chS l k = l[k] := by unfold chS; rw [List.getElem?_eq_getElem h]
theorem chS_out {l : List (List UInt8)} {k : Nat} (h : ¬ k < l.length) : chS l k = [] := by unfold chS; rw [List.getElem?_eq_none (by omega)]
theorem numS_enc (x : Nat) (hx : x < 18446744073709551616) (r : List UInt8) : numS x (encN x ++ r) false = (x, r, false) := by
  rw [numS_some (first_of_enc x hx r) (Nat.le_refl _), ← encN_length, List.drop_left]
theorem blobR_enc (D r : List UInt8) (m : Int) (hD : D.length < 18446744073709551616) (hm : (D.length : Int) ≤ m) : blobR m (encB D ++ r) false = (D, r, false) := by
  have h1 : first (encB D ++ r) = some (D.length, nb D.length + 1) := by unfold encB; rw [List.append_assoc]; exact first_of_enc _ hD _
  have h2 : blobS m (encB D ++ r) false = some (D.length, nb D.length + 1) := by
    unfold blobS peekS
    simp only [Bool.false_eq_true, if_false, h1]
    rw [if_pos ⟨by omega, by omega, by rw [List.length_append, encB_len]; omega⟩]
  unfold blobR
  rw [h2]
  simp only
  have e : encB D ++ r = encN D.length ++ (D ++ r) := by unfold encB; rw [List.append_assoc]
  rw [e, ← encN_length, List.drop_left, List.take_left, ← List.drop_drop, List.drop_left, List.drop_left]
theorem sumR_enc (s r : List UInt8) (h : s.length = 32) : sumR (s ++ r) false = (s, r, false) := by
  unfold sumR
  rw [if_pos ⟨rfl, by rw [List.length_append]; omega⟩]
  have e1 : (s ++ r).take 32 = s := by rw [← h, List.take_left]
  have e2 : (s ++ r).drop 32 = r := by rw [← h, List.drop_left]
  rw [e1, e2]
theorem RV_single (w : World) (u : Value) (e : TypeId) (h : u.cells.size = 1) (hu : u.cells = #[u]) : RV (w.alloc (.cells #[u] e)) (.slice (some ⟨w.heap.size, 0, none⟩) 1 1) 1 1 [u] := RV_new w [u] e 1 1 (0, 0) rfl (by decide)
theorem keep2 {wc w' : World} {b o : Nat} {u : Value} (hbl : b < wc.heap.size) (hc : wc.cell? ⟨b, o, none⟩ = some u) (hb : Below wc.heap.size wc w') : Below wc.heap.size wc w' ∧ w'.cell? ⟨b, o, none⟩ = some u := ⟨hb, (hb.cell hbl).trans hc⟩
theorem one_at {W : World} {g : Nat} {u : Value} (hc : W.cell? ⟨g, 0, none⟩ = some u) : RV W (.slice (some ⟨g, 0, none⟩) 1 1) 1 1 [u] := ⟨rfl, _, 1, rfl, Nat.le_refl _, by decide, fun _ => ⟨g, 0, rfl, fun j v hj => by
  match j, hj with
  | 0, hj => simp at hj; subst hj; exact hc⟩⟩
theorem blob_one {wc : World} {v : Value} {ys x : List UInt8} {sv : Value} (hv : RV wc v ys.length 1 (bs ys)) (hs : RV wc sv x.length 1 (bs x)) (hl : (ys ++ encB x).length ≤ 140737488355328) : ∀ (W : World) (g : Nat), Below wc.heap.size wc W → W.cell? ⟨g, 0, none⟩ = some sv →
    Calls Try.prog 16 #[v, .slice (some ⟨g, 0, none⟩) 1 1] W fun e w2 => ∃ v', e = .returned v' ∧ RV w2 v' (ys ++ encB x).length 1 (bs (ys ++ encB x)) ∧ Below W.heap.size W w2 := by
  intro W g hb hc
  refine (blob_calls v _ ys [x] W (hv.below hb) ⟨[sv], one_at hc, fun i v x' h1 h2 => ?_⟩ (by simpa [encBs] using hl)).mono fun e w2 hh => ?_
  · match i, h1, h2 with
    | 0, h1, h2 => simp at h1 h2; subst h1; subst h2; exact hs.below hb
  · obtain ⟨v', rfl, ho, hb'⟩ := hh
    exact ⟨v', rfl, by simpa [encBs] using RV_own ho, hb'⟩
theorem text_one {ys x : List UInt8} (hl : (ys ++ encB x).length ≤ 140737488355328) : ∀ (W : World) (v : Value) (g : Nat), RV W v ys.length 1 (bs ys) → W.cell? ⟨g, 0, none⟩ = some (.string (st x)) →
    Calls Try.prog 20 #[v, .slice (some ⟨g, 0, none⟩) 1 1] W fun e w2 => ∃ v', e = .returned v' ∧ w2.ownsRow W.heap.size 5 1 v' (ys ++ encB x).length (bs (ys ++ encB x)) ∧ Below W.heap.size W w2 := by
  intro W v g hv hc
  have e : encTs [st x] = encB x := by simp [encTs, tb_st]
  have := text_calls v _ ys [st x] W hv (one_at hc) (by rw [e]; exact hl)
  rw [e] at this
  exact this
theorem sum_at {w : World} {A : Option Addr} {c : Nat} {l : List (List UInt8)} (h : RV w (.slice A l.length c) l.length 32 (l.flatMap bs)) (h32 : ∀ x ∈ l, x.length = 32) (k : Nat) (hk : k < l.length) :
    ∃ b o, A = some ⟨b, o, none⟩ ∧ b < w.heap.size ∧ ∀ W, Below w.heap.size w W → ∀ j u, (bs l[k])[j]? = some u → W.cell? ⟨b, o + k * 32 + j, none⟩ = some u := by
  obtain ⟨hl, A', c', e, h1, h2, h3⟩ := h
  simp only [Value.slice.injEq, true_and] at e
  obtain ⟨rfl, rfl⟩ := e
  obtain ⟨b, o, rfl, hc⟩ := h3 (by intro e; have := congrArg List.length e; rw [hl] at this; have h6 : ([] : List Value).length = 0 := rfl; omega)
  have key : ∀ j u, (bs l[k])[j]? = some u → w.cell? ⟨b, o + k * 32 + j, none⟩ = some u := fun j u hj => by
    have := hc _ u (flat_at bs 32 l (fun x hx => by rw [bs_length]; exact h32 x hx) k hk j u hj)
    rw [← Nat.add_assoc] at this
    exact this
  have hkl := h32 l[k] (List.getElem_mem hk)
  have hlt : b < w.heap.size := World.block_lt_of_cell? w _ (key 0 _ (bs_at _ 0 (by omega)))
  exact ⟨b, o, rfl, hlt, fun W hW j u hj => (hW.cell (p := ⟨b, o + k * 32 + j, none⟩) hlt).trans (key j u hj)⟩
/-- A slice of one array is made. -/
theorem wpList_build_agg {P : Program} {ops : Array Oper} {rest : List Oper} {o : Oper} {a : Act} {w : World} {Q : Exit → Act → World → Prop} (hg : o.guard = none) (t e : TypeId) (x : Operand) (ho : o.op = .buildSlice t 1 #[(0, x)]) (cs : List Value) (hx : a.eval x = .agg cs.toArray)
    (hu : P.underlying t = some (.slice e)) (hi : (P.info? e).map (·.size) = some cs.length) (hz : ((P.info? e).bind (·.zero)).isSome = true) (hpos : 0 < cs.length) (hsmall : cs.length ≤ 2 ^ 24)
    (h : wpList P ops Q rest (a.put o.dst (.slice (some ⟨w.heap.size, 0, none⟩) 1 1)) (w.alloc (.cells cs.toArray e))) : wpList P ops Q (o :: rest) a w := by
  cases hie : P.info? e with
  | none => simp [hie] at hi
  | some ie =>
    simp only [hie, Option.map_some, Option.some.injEq, Option.bind_some] at hi hz
    obtain ⟨z, hzz⟩ := Option.isSome_iff_exists.1 hz
    refine wpList_buildSlice hg t e 1 _ ho cs.toArray ie z hu hie hzz (by rw [hi]; omega) (by rw [hi]; omega) ?_ h
    have hf := Great.fill_whole (s := cs.length) hpos [.agg cs.toArray] ((Array.range (1 * cs.length)).map (z.cells[· % z.cells.size]!)) (fun v hv => by rw [List.mem_singleton.1 hv]; simp [Value.cells]) (by simp)
    have e1 : ((#[(0, x)] : Array (Nat × Operand)).map fun (i, x) => (i, a.eval x)).toList = (([.agg cs.toArray] : List Value).zipIdx 0).map fun x => (x.2, x.1) := by simp [hx]
    rw [e1, hi, hf]
    simp [Value.cells]
theorem info_sum : (Try.prog.info? 60).map (·.size) = some 32 := by kernel_rfl
theorem sum_one {xs s : List UInt8} (hs : s.length = 32) (hl : xs.length ≤ 1000000) : ∀ (W : World) (v : Value), RV W v xs.length 1 (bs xs) →
    Calls Try.prog 21 #[v, .slice (some ⟨W.heap.size, 0, none⟩) 1 1] (W.alloc (.cells (bs s).toArray 60)) fun e w2 => ∃ v', e = .returned v' ∧ w2.ownsRow W.heap.size 5 1 v' (xs ++ s).length (bs (xs ++ s)) ∧ Below W.heap.size W w2 := by
  intro W v hv
  have hr : RV (W.alloc (.cells (bs s).toArray 60)) (.slice (some ⟨W.heap.size, 0, none⟩) 1 1) 1 32 (bs s) := RV_new W (bs s) 60 1 32 (0, 0) (by rw [bs_length, hs]) (by decide)
  refine (sums_calls v _ xs [s] _ (hv.alloc _) (by simpa using hr) (fun x hx => by rw [List.mem_singleton.1 hx]; exact hs) (by simp; omega)).mono fun e w2 hh => ?_
  obtain ⟨v', rfl, ho, hb⟩ := hh
  simp only [List.flatten_cons, List.flatten_nil, List.append_nil] at ho
  obtain ⟨hb1, hb2⟩ := below_alloc hb
  exact ⟨v', rfl, own_base ho (by simp), hb1⟩
theorem keepR {w w' : World} {b o : Nat} {cs : List Value} (hc : ∀ W, Below w.heap.size w W → ∀ j u, cs[j]? = some u → W.cell? ⟨b, o + j, none⟩ = some u) (hb : Below w.heap.size w w') : Below w.heap.size w w' ∧ w'.rangeAt b o cs := ⟨hb, fun j u hj => hc w' hb j u hj⟩
theorem size_u8 : ∀ w, (sizeOf 5).run Try.prog w = .ok 1 w := fun w => by go_simp
theorem run_neq_sum (w : World) (xs ys : List UInt8) (hx : xs.length = 32) (hy : ys.length = 32) : (binOp .neq 60 (.agg (bs xs).toArray) (.agg (bs ys).toArray)).run Try.prog w = .ok (.bool (!(xs == ys))) w := by
  have h := run_equalIn_bytes (P := Try.prog) w 9998 60 5 32 Try.underlying60 Try.underlying5 size_u8 xs ys hx hy
  rw [run_neq_struct]
  have h2 : (Op.equalIn 10000 60 (.agg (bs xs).toArray) (.agg (bs ys).toArray)).run Try.prog w = .ok (xs == ys) w := h
  rw [h2]
  rfl
set_option maxHeartbeats 4000000 in
set_option maxRecDepth 100000 in
theorem back_calls (v1 : Value) (l1 : List Nat) (v2 : Value) (l2 : List (List UInt8)) (v3 : Value) (l3 : List (List UInt8)) (w : World)
    (h1 : RV w v1 l1.length 1 (nums64 l1)) (w1 : ∀ x ∈ l1, x < 18446744073709551616) (h2 : RBs w v2 l2) (h3 : RV w v3 l3.length 32 (l3.flatMap bs)) (h32 : ∀ x ∈ l3, x.length = 32) :
    Calls Try.prog 8 #[v1, v2, v3] w fun e w' => e = .returned (.bool true) ∧ Below w.heap.size w w' := by
  obtain ⟨vs, hvs, hel⟩ := id h2
  obtain ⟨A1, c1, rfl⟩ := h1.slice
  obtain ⟨A2, c2, rfl⟩ := hvs.slice
  obtain ⟨A3, c3, rfl⟩ := h3.slice
  have m1 := h1.max
  have m2 := hvs.max
  have m3 := h3.max
  by_cases g1 : 500 < l1.length
  · go_enter Try.func8, Try.ntmps8
    go_wp2_with (go_at_call 10; refine (awake_calls _).mono ?_; rintro e w1 ⟨rfl, hb⟩)
    go_ret
    exact ⟨rfl, hb⟩
  by_cases g2 : 500 < l2.length
  · go_enter Try.func8, Try.ntmps8
    go_wp2_with (go_at_call 10; refine (awake_calls _).mono ?_; rintro e w1 ⟨rfl, hb⟩)
    go_ret
    exact ⟨rfl, hb⟩
  by_cases g3 : 500 < l3.length
  · go_enter Try.func8, Try.ntmps8
    go_wp2_with (go_at_call 10; refine (awake_calls _).mono ?_; rintro e w1 ⟨rfl, hb⟩)
    go_ret
    exact ⟨rfl, hb⟩
  go_enter Try.func8, Try.ntmps8
  go_wp2_with fail
  go_loopw [7, 8] (fun v i wr => ∃ (k : Nat) (zs : List UInt8), k ≤ 500 ∧ i = .int .i64 (k : Int) ∧ Hid (zs = wrote l1 l2 l3 k) ∧ wr.ownsRow w.heap.size 5 1 v zs.length (bs zs) ∧ zs.length ≤ 200000 ∧ (∀ x ∈ l2.take k, x.length ≤ 5000) ∧ Below w.heap.size w wr) (fun _ i _ => 500 - (intOf i).toNat)
  case atStart => exact ⟨0, [], by omega, rfl, by show _ = _; rfl, ⟨rfl, .inl ⟨rfl, rfl⟩⟩, by simp, by simp, Below.refl _ _⟩
  case round =>
    obtain ⟨k, zs, hk, rfl, hz, hown, hzl, h5, hb⟩ := hrel
    have hbz := hb.size
    by_cases hlt : k < 500
    · obtain ⟨Az, cz, rfl⟩ := (RV_own hown).slice
      go_upto_if 32 with (fail)
      go_cut [7] from 25 to 79 (fun v wc => ∃ ys : List UInt8, Hid (ys = zs ++ chN l1 k) ∧ wc.ownsRow w.heap.size 5 1 v ys.length (bs ys) ∧ ys.length ≤ 200009 ∧ Below w.heap.size w wc)
      case first =>
        by_cases hn : k < l1.length
        · obtain ⟨b, o, u, rfl, hu, hcell, hbl⟩ := h1.at_ k hn
          have hx := w1 l1[k] (List.getElem_mem hn)
          have hcx : chN l1 k = encN l1[k] := chN_in hn
          have hu2 : u = .int .u64 (l1[k] : Int) := by simp [nums64, hn] at hu; exact hu.symm
          obtain ⟨x, HX⟩ := hidden l1[k]
          rw [HX.out] at hx hcx hu2
          subst hu2
          have hcell2 : wr.cell? ⟨b, o + k, none⟩ = some (.int .u64 (x : Int)) := (hb.cell hbl).trans hcell
          have HC := hid hcx
          clear hcell hu hcx
          have hnx := nb_le x
          have hex := encN_length x
          have HEX := hid hex
          clear hex
          go_wp2_with (go_at_call 9; refine (num_calls _ _ zs [x] _ ((RV_own hown).alloc _) (RV_new wr [.int .u64 (x : Int)] 22 1 1 (0, 0) rfl (by decide)) (by intro y hy; rw [List.mem_singleton.1 hy]; exact hx) (by simp [encNs, HEX.out]; omega)).mono ?_; rintro e w2 ⟨v2, rfl, ho2, hb2⟩)
          go_meet
          case rel =>
            obtain ⟨hb2', hz2⟩ := below_alloc hb2
            refine ⟨zs ++ encNs [x], ?_, own_base ho2 (by simp; omega), ?_, below_then hb hbz hb2'⟩
            · show _ = _; rw [HC.out]; simp [encNs]
            · simp [encNs, HEX.out]; omega
        · have HC := hid (chN_out hn)
          go_wp2_with fail
          go_meet
          case rel => exact ⟨zs, by show _ = _; rw [HC.out, List.append_nil], hown, by omega, hb⟩
      case rest =>
        obtain ⟨ys, hy, hown2, hyl, hb2⟩ := hcut
        clear hown hb hbz
        rename World => wc
        have hbz2 := hb2.size
        obtain ⟨Ay, cy, rfl⟩ := (RV_own hown2).slice
        go_upto_if 43 with (fail)
        go_cut [7] from 25 to 79 (fun v wd => ∃ xs : List UInt8, Hid (xs = ys ++ chB l2 k) ∧ (∀ x ∈ l2.take (k + 1), x.length ≤ 5000) ∧ wd.ownsRow w.heap.size 5 1 v xs.length (bs xs) ∧ xs.length ≤ 220000 ∧ Below w.heap.size w wd)
        case first =>
          by_cases hn : k < l2.length
          · obtain ⟨b, o, u, rfl, hu, hcell, hbl⟩ := hvs.at_ k hn
            have hux := (hel k u l2[k] hu (List.getElem?_eq_getElem hn)).below hb2
            have hcx : chB l2 k = encB l2[k] ++ encB l2[k] := chB_in hn
            have htk : l2.take (k + 1) = l2.take k ++ [l2[k]] := List.take_succ_eq_append_getElem hn
            obtain ⟨x, HX⟩ := hidden l2[k]
            rw [HX.out] at hcx hux htk
            obtain ⟨A', c', rfl⟩ := hux.slice
            have hcell2 : wc.cell? ⟨b, o + k, none⟩ = some (.slice A' x.length c') := (hb2.cell hbl).trans hcell
            have HC := hid hcx
            have HT := hid htk
            clear hcell hu hcx htk
            by_cases hbig : 5000 < x.length
            · go_wp2_with (go_at_call 10; refine (awake_calls _).mono ?_; rintro e w1 ⟨rfl, hb⟩)
              go_ret
              exact ⟨rfl, below_then hb2 hbz2 hb⟩
            · have hxl : x.length ≤ 5000 := by omega
              have heb := encB_length x
              have kc : ∀ w', Below wc.heap.size wc w' → Sem.run Try.prog (convert 23 9 (.slice A' x.length c')) w' = .ok (.string (st x)) w' := fun w' h => conv_bytes (hux.below h)
              have hB := blob_one (RV_own hown2) hux (by rw [List.length_append]; omega)
              have hT := text_one (ys := ys ++ encB x) (x := x) (by rw [List.length_append, List.length_append]; omega)
              have p0 : (0 : Int) ≤ (k : Int) := by omega
              have p1 : (k : Int) < (l2.length : Int) := by omega
              have hblc : b < wc.heap.size := by omega
              go_wp2_with fail
              go_region_held (fun w' => Below wc.heap.size wc w' ∧ w'.cell? ⟨b, o + k, none⟩ = some (.slice A' x.length c')) ((refine keep2 hblc hcell2 ?_; repeat (first | assumption | exact Below.refl _ _ | exact Nat.le_refl _ | exact Below.size (by assumption) | (with_reducible refine Below.drew ?_) | (with_reducible refine Below.alloc ?_ ?_ _) | (simp; done) | (simp; omega)))) (first | (go_at_call 16; refine (hB _ _ (by repeat (first | assumption | exact Below.refl _ _ | exact Nat.le_refl _ | exact Below.size (by assumption) | (with_reducible refine Below.drew ?_) | (with_reducible refine Below.alloc ?_ ?_ _) | (simp; done) | (simp; omega))) (by go_simp)).mono ?_; rintro e x1 ⟨u1, rfl, hu1, hx1⟩; have hy1 : Below wc.heap.size wc x1 := below_size (by repeat (first | assumption | exact Below.refl _ _ | exact Nat.le_refl _ | exact Below.size (by assumption) | (with_reducible refine Below.drew ?_) | (with_reducible refine Below.alloc ?_ ?_ _) | (simp; done) | (simp; omega))) hx1) | (go_at_call 20; refine (hT _ _ _ (by repeat (first | assumption | (with_reducible refine RV.drew ?_) | (with_reducible refine RV.alloc ?_ _))) (by first | (go_simp; done) | exact (hx1.cell (p := ⟨_, 0, none⟩) (by simp <;> omega)).trans (by go_simp))).mono ?_; rintro e x2 ⟨u2, rfl, hu2, hx2⟩; have hy2 : Below wc.heap.size wc x2 := below_size (by repeat (first | assumption | exact Below.refl _ _ | exact Nat.le_refl _ | exact Below.size (by assumption) | (with_reducible refine Below.drew ?_) | (with_reducible refine Below.alloc ?_ ?_ _) | (simp; done) | (simp; omega))) hx2))
              all_goals
                go_wp2_with fail
                go_meet
                case rel =>
                  refine ⟨(ys ++ encB x) ++ encB x, ?_, ?_, own_base hu2 (by have s1 := hy1.size; simp; omega), ?_, below_then hb2 hbz2 hy2⟩
                  · show _ = _; rw [HC.out, List.append_assoc]
                  · rw [HT.out]; intro z hz; rcases List.mem_append.1 hz with hz | hz
                    · exact h5 z hz
                    · rw [List.mem_singleton.1 hz]; exact hxl
                  · rw [List.length_append, List.length_append]; omega
          · have HC := hid (chB_out hn)
            go_wp2_with fail
            go_meet
            case rel => exact ⟨ys, by show _ = _; rw [HC.out, List.append_nil], by rw [List.take_of_length_le (by omega)]; rw [List.take_of_length_le (by omega)] at h5; exact h5, hown2, by omega, hb2⟩
        case rest =>
          obtain ⟨xs, hx, h5', hown3, hxl, hb3⟩ := hcut
          clear hown2 hb2 hbz2
          rename World => wd
          have hbz3 := hb3.size
          obtain ⟨Ax, cx, rfl⟩ := (RV_own hown3).slice
          go_upto_if 68 with (fail)
          go_cut [7] from 25 to 79 (fun v we => ∃ us : List UInt8, Hid (us = xs ++ chS l3 k) ∧ we.ownsRow w.heap.size 5 1 v us.length (bs us) ∧ us.length ≤ 230000 ∧ Below w.heap.size w we)
          case first =>
            by_cases hn : k < l3.length
            · obtain ⟨b, o, rfl, hbl, hcell⟩ := sum_at h3 h32 k hn
              have hcx : chS l3 k = l3[k] := chS_in hn
              have hsl := h32 l3[k] (List.getElem_mem hn)
              obtain ⟨s, HX⟩ := hidden l3[k]
              rw [HX.out] at hcx hcell hsl
              have hce := hcell wd hb3
              have HC := hid hcx
              have HSL := hid hsl
              have HCE := hid hce
              clear hcx hsl hcell hce
              have p0 : (0 : Int) ≤ (k : Int) := by omega
              have hbl1 : (bs s).length = 32 := by rw [bs_length, HSL.out]
              have HBL := hid hbl1
              clear hbl1
              have hS := sum_one (xs := xs) (s := s) HSL.out (by omega)
              go_wp2_with (first | (refine wpList_load_at 60 (.tmp 72) b (o + k * 32) (bs s) _ HCE.out Try.underlying60 rfl (by rw [HBL.out]; exact info_sum) rfl rfl rfl ?_) | (refine wpList_build_agg rfl 55 60 (.tmp 73) rfl (bs s) rfl Try.underlying55 (by rw [HBL.out]; exact info_sum) (by kernel_rfl) (by rw [HBL.out]; decide) (by rw [HBL.out]; decide) ?_) | (go_at_call 21; refine (hS _ _ (RV_own hown3)).mono ?_; rintro e w2 ⟨v2, rfl, ho2, hb2⟩))
              go_meet
              case rel => exact ⟨xs ++ s, by show _ = _; rw [HC.out], own_base ho2 hbz3, by rw [List.length_append]; have := HSL.out; omega, below_then hb3 hbz3 hb2⟩
            · have HC := hid (chS_out hn)
              go_wp2_with fail
              go_meet
              case rel => exact ⟨xs, by show _ = _; rw [HC.out, List.append_nil], hown3, by omega, hb3⟩
          case rest =>
            obtain ⟨us, hu, hown4, hul, hb4⟩ := hcut
            clear hown3 hb3 hbz3
            rename World => we
            have hbz4 := hb4.size
            obtain ⟨Au, cu, rfl⟩ := (RV_own hown4).slice
            by_cases hbig : 200000 < us.length
            · go_wp2_with (go_at_call 10; refine (awake_calls _).mono ?_; rintro e w1 ⟨rfl, hb⟩)
              go_ret
              exact ⟨rfl, below_then hb4 hbz4 hb⟩
            · go_wp2_with fail
              go_roundw
              case rel =>
                refine ⟨k + 1, us, by omega, by go_num, ?_, hown4, by omega, h5', hb4⟩
                show _ = _
                rw [hu.out, hx.out, hy.out, hz.out, wrote_succ]
                unfold chunk
                simp only [List.append_assoc]
              case measure => simp [intOf]; omega
    · obtain rfl : k = 500 := by omega
      have hz0 := hz.out
      rw [left_all] at hz0
      have HZ := hid hz0
      have hxl2 : ∀ x ∈ l2, x.length ≤ 5000 := by rw [List.take_of_length_le (by omega)] at h5; exact h5
      clear hz hz0 h5
      obtain ⟨Az, cz, rfl⟩ := (RV_own hown).slice
      go_wp2_with fail
      refine (from_calls _ zs wr (RV_own hown) (by omega)).mono ?_
      rintro e w3 ⟨⟨p, kb, rfl, hp1, hp2, hk1, hk2, hc⟩, hb3⟩
      have hc := hc.toV
      have hb3' := below_then hb hbz hb3
      have hz3 := hb3'.size
      clear hown hb hb3
      go_wp2_with fail
      go_loopw [10] (fun i wq => ∃ (k : Nat) (rs : List UInt8), k ≤ 500 ∧ i = .int .i64 (k : Int) ∧ Hid (rs = left l1 l2 l3 k) ∧ CutV wq (.pointer (some ⟨p, 0, none⟩)) kb rs false ∧ rs.length ≤ 200000 ∧ Below w.heap.size w wq) (fun i _ => 500 - (intOf i).toNat)
      case atStart => exact ⟨0, zs, by omega, rfl, HZ, hc, hzl, hb3'⟩
      case round =>
        clear hc hb3' HZ hzl
        obtain ⟨k, rs, hk, rfl, hrs, hc, hrl, hb⟩ := hrel
        rename World => wq
        have hpw : w.heap.size ≤ p := by omega
        have hbq := hb.size
        by_cases hlt : k < 500
        · have hls := left_succ l1 l2 l3 k hlt
          obtain ⟨nx, HNX⟩ := hidden (left l1 l2 l3 (k + 1))
          obtain ⟨r2, HR2⟩ := hidden (chS l3 k ++ nx)
          obtain ⟨r1, HR1⟩ := hidden (chB l2 k ++ r2)
          have hr0 : rs = chN l1 k ++ r1 := by rw [hrs.out, hls, HNX.out, HR2.out, HR1.out]
          clear hls
          have HR0 := hid hr0
          clear hr0
          have p0 : (0 : Int) ≤ (k : Int) := by omega
          go_upto_region 21 with (fail)
          go_cut [102] from 82 to 145 (fun t wc => t = .bool false ∧ CutV wc (.pointer (some ⟨p, 0, none⟩)) kb r1 false ∧ r1.length ≤ 200000 ∧ Below w.heap.size w wc)
          case first =>
            by_cases hn : k < l1.length
            · obtain ⟨b, o, u, rfl, hu, hcell, hbl⟩ := h1.at_ k hn
              have hx := w1 l1[k] (List.getElem_mem hn)
              have hcx : chN l1 k = encN l1[k] := chN_in hn
              have hu2 : u = .int .u64 (l1[k] : Int) := by simp [nums64, hn] at hu; exact hu.symm
              obtain ⟨x, HX⟩ := hidden l1[k]
              rw [HX.out] at hx hcx hu2
              subst hu2
              have hN : Hid (numS x rs false = (x, r1, false)) := by show _ = _; rw [HR0.out, hcx]; exact numS_enc x hx r1
              have hr1l : r1.length ≤ 200000 := by have := congrArg List.length HR0.out; rw [List.length_append] at this; omega
              clear hcx hu
              have p1 : (k : Int) < (l1.length : Int) := by omega
              go_region_held (fun w' => Below w.heap.size w w' ∧ w'.cell? ⟨b, o + k, none⟩ = some (.int .u64 (x : Int))) ((refine keep2 hbl hcell ?_; repeat (first | assumption | exact Below.refl _ _ | exact Nat.le_refl _ | exact Below.size (by assumption) | (with_reducible refine Below.drew ?_) | (with_reducible refine Below.alloc ?_ ?_ _) | (simp; done) | (simp; omega)))) ((go_at_call 13; refine (cnum_calls _ _ rs false (hc.below (by repeat (first | assumption | exact Below.refl _ _ | exact Nat.le_refl _ | exact Below.size (by assumption) | (with_reducible refine Below.drew ?_) | (with_reducible refine Below.alloc ?_ ?_ _) | (simp; done) | (simp; omega)))) x hx x r1 false hN).mono ?_; rintro e x1 ⟨rfl, hc1, hg1⟩; have hy1 : Below w.heap.size w x1 := Below.grown (by repeat (first | assumption | exact Below.refl _ _ | exact Nat.le_refl _ | exact Below.size (by assumption) | (with_reducible refine Below.drew ?_) | (with_reducible refine Below.alloc ?_ ?_ _) | (simp; done) | (simp; omega))) hg1 (by first | omega | (simp; omega)) (fun j hj => by have := Option.some.inj hj; simp at this; omega)))
              go_wp2_with fail
              go_meet
              case rel => exact ⟨rfl, by assumption, hr1l, by assumption⟩
            · have HC := hid (chN_out hn)
              have e0 := HR0.out
              rw [HC.out, List.nil_append] at e0
              have hc1 : CutV wq (.pointer (some ⟨p, 0, none⟩)) kb r1 false := by rw [← e0]; exact hc
              have hr1l : r1.length ≤ 200000 := by rw [← e0]; exact hrl
              clear e0
              go_quiet (fail)
              go_wp2_with fail
              go_meet
              case rel => exact ⟨rfl, hc1.below (by repeat (first | assumption | exact Below.refl _ _ | exact Nat.le_refl _ | exact Below.size (by assumption) | (with_reducible refine Below.drew ?_) | (with_reducible refine below_drewN ?_ _) | (with_reducible refine Below.alloc ?_ ?_ _) | (simp; done) | (simp; omega))), hr1l, (by repeat (first | assumption | exact Below.refl _ _ | exact Nat.le_refl _ | exact Below.size (by assumption) | (with_reducible refine Below.drew ?_) | (with_reducible refine below_drewN ?_ _) | (with_reducible refine Below.alloc ?_ ?_ _) | (simp; done) | (simp; omega)))⟩
          case rest =>
            obtain ⟨rfl, hc1, hr1l, hb1⟩ := hcut
            clear hc hrl hb hbq HR0 hrs
            rename World => wd
            have hbq := hb1.size
            go_upto_region 23 with (fail)
            go_cut [132] from 82 to 145 (fun t wc => t = .bool false ∧ CutV wc (.pointer (some ⟨p, 0, none⟩)) kb r2 false ∧ r2.length ≤ 200000 ∧ Below w.heap.size w wc)
            case first =>
              by_cases hn : k < l2.length
              · obtain ⟨b, o, u, rfl, hu, hcell, hbl⟩ := hvs.at_ k hn
                have hux := hel k u l2[k] hu (List.getElem?_eq_getElem hn)
                have h5 := hxl2 l2[k] (List.getElem_mem hn)
                have hcx : chB l2 k = encB l2[k] ++ encB l2[k] := chB_in hn
                obtain ⟨x, HX⟩ := hidden l2[k]
                rw [HX.out] at hcx hux h5
                obtain ⟨A', c', rfl⟩ := hux.slice
                obtain ⟨r3, HR3⟩ := hidden (encB x ++ r2)
                have hN1 : Hid (blobR (x.length : Int) r1 false = (x, r3, false)) := by show _ = _; rw [← HR1.out, hcx, List.append_assoc, HR3.out]; exact blobR_enc x r3 _ (by omega) (by omega)
                have hN2 : Hid (blobR 5000 r3 false = (x, r2, false)) := by show _ = _; rw [← HR3.out]; exact blobR_enc x r2 _ (by omega) (by omega)
                have hr2l : r2.length ≤ 200000 := by have := congrArg List.length HR1.out; rw [List.length_append] at this; omega
                clear hcx hu
                have p1 : (k : Int) < (l2.length : Int) := by omega
                have kc : ∀ w', Below w.heap.size w w' → Sem.run Try.prog (convert 23 9 (.slice A' x.length c')) w' = .ok (.string (st x)) w' := fun w' h => conv_bytes (hux.below h)
                go_region_held (fun w' => Below w.heap.size w w' ∧ w'.cell? ⟨b, o + k, none⟩ = some (.slice A' x.length c')) ((refine keep2 hbl hcell ?_; repeat (first | assumption | exact Below.refl _ _ | exact Nat.le_refl _ | exact Below.size (by assumption) | (with_reducible refine Below.drew ?_) | (with_reducible refine Below.alloc ?_ ?_ _) | (simp; done) | (simp; omega)))) (first | (go_at_call 15; refine (cblob_calls _ _ r1 false (hc1.below (by repeat (first | assumption | exact Below.refl _ _ | exact Nat.le_refl _ | exact Below.size (by assumption) | (with_reducible refine Below.drew ?_) | (with_reducible refine below_drewN ?_ _) | (with_reducible refine Below.alloc ?_ ?_ _) | (simp; done) | (simp; omega)))) (x.length : Int) (by omega) x r3 false hN1 (by omega)).mono ?_; rintro e x1 ⟨⟨u1, rfl, hu1⟩, hc2, hg1⟩; have hy1 : Below w.heap.size w x1 := Below.grown (by repeat (first | assumption | exact Below.refl _ _ | exact Nat.le_refl _ | exact Below.size (by assumption) | (with_reducible refine Below.drew ?_) | (with_reducible refine below_drewN ?_ _) | (with_reducible refine Below.alloc ?_ ?_ _) | (simp; done) | (simp; omega))) hg1 (by first | omega | (simp; omega)) (fun j hj => by have := Option.some.inj hj; simp at this; omega); have e1 := conv_bytes (RV_own hu1)) | (go_at_call 26; refine (ctext_calls _ _ r3 false (hc2.below (by repeat (first | assumption | exact Below.refl _ _ | exact Nat.le_refl _ | exact Below.size (by assumption) | (with_reducible refine Below.drew ?_) | (with_reducible refine below_drewN ?_ _) | (with_reducible refine Below.alloc ?_ ?_ _) | (simp; done) | (simp; omega)))) 5000 (by omega) x r2 false hN2).mono ?_; rintro e x2 ⟨rfl, hc3, hg2⟩; have hs1 := hy1.size; have hy2 : Below w.heap.size w x2 := Below.grown (by repeat (first | assumption | exact Below.refl _ _ | exact Nat.le_refl _ | exact Below.size (by assumption) | (with_reducible refine Below.drew ?_) | (with_reducible refine below_drewN ?_ _) | (with_reducible refine Below.alloc ?_ ?_ _) | (simp; done) | (simp; omega))) hg2 (by first | omega | (simp; omega)) (fun j hj => by have := Option.some.inj hj; simp at this; omega)))
                all_goals
                  go_wp2_with fail
                  go_meet
                  case rel => exact ⟨rfl, by assumption, hr2l, by assumption⟩
              · have HC := hid (chB_out hn)
                have e0 := HR1.out
                rw [HC.out, List.nil_append] at e0
                have hc2 : CutV wd (.pointer (some ⟨p, 0, none⟩)) kb r2 false := by rw [e0]; exact hc1
                have hr2l : r2.length ≤ 200000 := by rw [e0]; exact hr1l
                clear e0
                go_quiet (fail)
                go_wp2_with fail
                go_meet
                case rel => exact ⟨rfl, hc2.below (by repeat (first | assumption | exact Below.refl _ _ | exact Nat.le_refl _ | exact Below.size (by assumption) | (with_reducible refine Below.drew ?_) | (with_reducible refine below_drewN ?_ _) | (with_reducible refine Below.alloc ?_ ?_ _) | (simp; done) | (simp; omega))), hr2l, (by repeat (first | assumption | exact Below.refl _ _ | exact Nat.le_refl _ | exact Below.size (by assumption) | (with_reducible refine Below.drew ?_) | (with_reducible refine below_drewN ?_ _) | (with_reducible refine Below.alloc ?_ ?_ _) | (simp; done) | (simp; omega)))⟩
            case rest =>
              obtain ⟨rfl, hc2, hr2l, hb2⟩ := hcut
              clear hc1 hr1l hb1 hbq HR1
              rename World => wf
              have hbq := hb2.size
              go_upto_region 25 with (fail)
              go_cut [145] from 82 to 145 (fun t wc => t = .bool false ∧ CutV wc (.pointer (some ⟨p, 0, none⟩)) kb nx false ∧ nx.length ≤ 200000 ∧ Below w.heap.size w wc)
              case first =>
                by_cases hn : k < l3.length
                · obtain ⟨b, o, rfl, hbl, hcell⟩ := sum_at h3 h32 k hn
                  have hcx : chS l3 k = l3[k] := chS_in hn
                  have hsl := h32 l3[k] (List.getElem_mem hn)
                  obtain ⟨s, HX⟩ := hidden l3[k]
                  rw [HX.out] at hcx hcell hsl
                  have hcellw : ∀ W, Below w.heap.size w W → ∀ j u, (bs s)[j]? = some u → W.cell? ⟨b, o + k * 32 + j, none⟩ = some u := hcell
                  have hN : Hid (sumR r2 false = (s, nx, false)) := by show _ = _; rw [← HR2.out, hcx]; exact sumR_enc s nx hsl
                  have hnl : nx.length ≤ 200000 := by have := congrArg List.length HR2.out; rw [List.length_append] at this; omega
                  have hneq : ∀ w', Sem.run Try.prog (binOp .neq 60 (.agg (bs s).toArray) (.agg (bs s).toArray)) w' = .ok (.bool false) w' := fun w' => by
                    have := run_neq_sum w' s s hsl hsl
                    rwa [show (!(s == s)) = false by simp] at this
                  have hbl32 : (bs s).length = 32 := by rw [bs_length, hsl]
                  have hi32 : (Try.prog.info? 60).map (·.size) = some (bs s).length := by rw [hbl32]; exact info_sum
                  have hu32 := Try.underlying60
                  have h132 := bs_one s
                  have HCL := hid hcell
                  clear hcx hsl hcell
                  have p1 : (k : Int) < (l3.length : Int) := by omega
                  go_region_held (fun w' => Below w.heap.size w w' ∧ w'.rangeAt b (o + k * 32) (bs s)) ((refine keepR hcellw ?_; repeat (first | assumption | exact Below.refl _ _ | exact Nat.le_refl _ | exact Below.size (by assumption) | (with_reducible refine Below.drew ?_) | (with_reducible refine Below.alloc ?_ ?_ _) | (simp; done) | (simp; omega)))) ((go_at_call 27; refine (csum_calls _ _ r2 false (hc2.below (by repeat (first | assumption | exact Below.refl _ _ | exact Nat.le_refl _ | exact Below.size (by assumption) | (with_reducible refine Below.drew ?_) | (with_reducible refine below_drewN ?_ _) | (with_reducible refine Below.alloc ?_ ?_ _) | (simp; done) | (simp; omega)))) s nx false hN).mono ?_; rintro e x1 ⟨rfl, hc3, hg1⟩; have hy1 : Below w.heap.size w x1 := Below.grown (by repeat (first | assumption | exact Below.refl _ _ | exact Nat.le_refl _ | exact Below.size (by assumption) | (with_reducible refine Below.drew ?_) | (with_reducible refine below_drewN ?_ _) | (with_reducible refine Below.alloc ?_ ?_ _) | (simp; done) | (simp; omega))) hg1 (by first | omega | (simp; omega)) (fun j hj => by have := Option.some.inj hj; simp at this; omega)))
                  all_goals
                    go_wp2_with fail
                    go_meet
                    case rel => exact ⟨rfl, by assumption, hnl, by assumption⟩
                · have HC := hid (chS_out hn)
                  have e0 := HR2.out
                  rw [HC.out, List.nil_append] at e0
                  have hc3 : CutV wf (.pointer (some ⟨p, 0, none⟩)) kb nx false := by rw [e0]; exact hc2
                  have hnl : nx.length ≤ 200000 := by rw [e0]; exact hr2l
                  clear e0
                  go_quiet (fail)
                  go_wp2_with fail
                  go_meet
                  case rel => exact ⟨rfl, hc3.below (by repeat (first | assumption | exact Below.refl _ _ | exact Nat.le_refl _ | exact Below.size (by assumption) | (with_reducible refine Below.drew ?_) | (with_reducible refine below_drewN ?_ _) | (with_reducible refine Below.alloc ?_ ?_ _) | (simp; done) | (simp; omega))), hnl, (by repeat (first | assumption | exact Below.refl _ _ | exact Nat.le_refl _ | exact Below.size (by assumption) | (with_reducible refine Below.drew ?_) | (with_reducible refine below_drewN ?_ _) | (with_reducible refine Below.alloc ?_ ?_ _) | (simp; done) | (simp; omega)))⟩
              case rest =>
                obtain ⟨rfl, hc3, hnl, hb3⟩ := hcut
                clear hc2 hr2l hb2 hbq HR2
                go_wp2_with fail
                go_roundw
                case rel => exact ⟨k + 1, nx, by omega, by go_num, by show _ = _; rw [HNX.out], hc3, hnl, hb3⟩
                case measure => simp [intOf]; omega
        · obtain rfl : k = 500 := by omega
          have e0 : rs = [] := by rw [hrs.out]; exact left_end l1 l2 l3
          subst e0
          go_wp2_with fail
          refine (left_calls _ _ [] false hc).mono ?_
          rintro e wr' ⟨rfl, rfl⟩
          go_wp2_with fail
          refine (done_calls _ _ [] false hc false rfl 0 rfl).mono ?_
          rintro e x1 ⟨rfl, hc1, hg1⟩
          have hy1 : Below w.heap.size w x1 := hb.grown hg1 hbq (fun j hj => by have := Option.some.inj hj; simp at this; omega)
          go_wp2_with fail
          refine (awake_calls _).mono ?_
          rintro e x2 ⟨rfl, hb2⟩
          go_wp2_with fail
          go_ret
          exact ⟨rfl, below_then hy1 hy1.size hb2⟩
theorem packBack_walk (v1 : Value) (a : List Int) (v2 : Value) (l2 : List (List UInt8)) (v3 : Value) (l3 : List (List UInt8)) (w : World)
    (h1 : RV w v1 a.length 1 (ns .u64 a)) (z1 : a.length ≤ 140737488355328) (w1 : ∀ n ∈ a, (Lit.int .u64 n).wf = true) (h2 : RBs w v2 l2) (z2 : l2.length ≤ 140737488355328) (h3 : RV w v3 l3.length 32 (l3.flatMap bs)) (h32 : ∀ x ∈ l3, x.length = 32) :
    Calls Try.prog 8 #[v1, v2, v3] w fun e w' => e = .returned (.bool true) ∧ Below w.heap.size w w' := by
  obtain ⟨l, e1, e2, e3⟩ := nums_nat a w1
  rw [e1, e2] at h1
  exact back_calls v1 l v2 l2 v3 l3 w h1 e3 h2 h3 h32
end Go.Proofs.Ytgdemfjlhcepiaa
