/-
  The document's pack: a sum cut off.
-/
import Derived.Test.YtgdemfjlhcepiaaRefG
import Derived.Test.YtgdemfjlhcepiaaPackD
set_option linter.unusedVariables false
set_option linter.unusedSimpArgs false
namespace Go.Proofs.Ytgdemfjlhcepiaa
open Go.RowKit
theorem CutAt.other {t : TypeId} {w w' : World} {p kb : Nat} {xs : List UInt8} {bad : Bool} (h : CutAt t w p kb xs bad) {g : Nat} (hg : w.grownBy w' (some g)) (h1 : p ≠ g) (h2 : xs ≠ [] → kb ≠ g) : CutAt t w' p kb xs bad := by
  obtain ⟨A, c, h3, h4, h5⟩ := h
  refine ⟨A, c, ?_, ?_, h5⟩
  · rw [hg.block p (Array.getElem?_eq_some_iff.1 h3).1 (fun e => h1 (Option.some.inj e))]; exact h3
  · obtain ⟨hl, A', c', e, e1, e2, e3⟩ := h4
    simp only [Value.slice.injEq, true_and] at e
    obtain ⟨rfl, rfl⟩ := e
    refine ⟨hl, A, c, rfl, e1, e2, fun hx => ?_⟩
    obtain ⟨b, o, rfl, hc⟩ := e3 hx
    have hx' : xs ≠ [] := by intro e; subst e; exact hx rfl
    obtain ⟨o', e'⟩ := h5 hx'
    simp only [Option.some.injEq, Addr.mk.injEq, and_true] at e'
    obtain ⟨rfl, rfl⟩ := e'
    exact ⟨b, o, rfl, fun j u hj => hg.cell (hc j u hj) (fun e => h2 hx' (Option.some.inj e))⟩
theorem CutAt.kb_lt {t : TypeId} {w : World} {p kb : Nat} {xs : List UInt8} {bad : Bool} (h : CutAt t w p kb xs bad) (hx : xs ≠ []) : kb < w.heap.size := by
  obtain ⟨A, c, h1, h2, h3⟩ := h
  obtain ⟨o, rfl⟩ := h3 hx
  have hx0 : 0 < xs.length := by cases xs with | nil => exact absurd rfl hx | cons _ _ => simp
  obtain ⟨b, o', u, e, _, _, hb⟩ := h2.at_ 0 hx0
  simp only [Option.some.injEq, Addr.mk.injEq] at e
  obtain ⟨rfl, _⟩ := e
  exact hb
/-- What the 32 bytes hold when m are copied. -/
def mid (D : List UInt8) (m : Nat) : List UInt8 := D.take m ++ List.replicate (32 - m) 0
theorem mid_length (D : List UInt8) (m : Nat) (h : m ≤ D.length) (h2 : m ≤ 32) : (mid D m).length = 32 := by simp [mid]; omega
theorem mid_set (D : List UInt8) (m : Nat) (h : m < D.length) (h2 : m < 32) : (mid D m).set m D[m] = mid D (m + 1) := by
  have e : (D.take m).length = m := by simp; omega
  unfold mid
  rw [List.set_append_right _ _ (by omega), e, Nat.sub_self, List.take_succ_eq_append_getElem h, show 32 - m = (32 - (m + 1)) + 1 by omega, List.replicate_succ, List.set_cons_zero, List.append_assoc]
  rfl
theorem bs_set (xs : List UInt8) (m : Nat) (b : UInt8) : (bs xs).set m (.int .u8 (b.toNat : Int)) = bs (xs.set m b) := by simp [bs]
set_option maxHeartbeats 1000000 in
set_option maxRecDepth 100000 in
theorem dsum_loop (w : World) (p : Nat) (xs : List UInt8) (bad : Bool) (h : DCut w p xs bad) (hl : xs.length ≤ 140737488355328) (D R xs' : List UInt8) (bad' : Bool) (hR : Hid (R = mid D D.length)) (hD : D.length ≤ 32)
    (hoff : ∀ W, Below w.heap.size w W → CutAt 41 W p (Classical.choose h) xs bad → Calls Try.prog 44 #[.pointer (some ⟨p, 0, none⟩), .int .i64 32, .bool true] W fun e w' => ∃ v kb', e = .returned (.tuple #[v, .bool (!bad')]) ∧ w'.ownsRow W.heap.size 5 1 v D.length (bs D) ∧ CutAt 41 w' p kb' xs' bad' ∧ W.grownBy w' (some p) ∧ (xs' ≠ [] → kb' < w.heap.size ∨ W.heap.size ≤ kb')) :
    Calls Try.prog 40 #[.pointer (some ⟨p, 0, none⟩)] w fun e w' => e = .returned (.agg (bs R).toArray) ∧ DCut w' p xs' bad' ∧ w.grownBy w' (some p) := by
  have hc0 := Classical.choose_spec h
  have hpl := hc0.lt
  go_enter Try.func40, Try.ntmps40
  go_wp2_with fail
  generalize hZ : (#[Value.int .u8 0, Value.int .u8 0, Value.int .u8 0, Value.int .u8 0, Value.int .u8 0, Value.int .u8 0, Value.int .u8 0, Value.int .u8 0, Value.int .u8 0, Value.int .u8 0, Value.int .u8 0, Value.int .u8 0, Value.int .u8 0, Value.int .u8 0, Value.int .u8 0, Value.int .u8 0, Value.int .u8 0, Value.int .u8 0, Value.int .u8 0, Value.int .u8 0, Value.int .u8 0, Value.int .u8 0, Value.int .u8 0, Value.int .u8 0, Value.int .u8 0, Value.int .u8 0, Value.int .u8 0, Value.int .u8 0, Value.int .u8 0, Value.int .u8 0, Value.int .u8 0, Value.int .u8 0] : Array Value) = ZA
  have HZ : Hid (ZA = (bs (List.replicate 32 0)).toArray) := by show _ = _; rw [← hZ]; rfl
  clear hZ
  have hB : Below w.heap.size w ((w.alloc (.cells ZA 60)).alloc (.cells ZA 60)) := ((Below.refl w.heap.size w).alloc (Nat.le_refl _) _).alloc (by simp) _
  have hg2 : ((w.alloc (.cells ZA 60)).alloc (.cells ZA 60)).heap[w.heap.size]? = some (.cells ZA 60 (0, 0)) := by
    rw [Below.heap_alloc _ _ _ (by simp)]; exact heap_alloc_new w _
  have hg3 : ((w.alloc (.cells ZA 60)).alloc (.cells ZA 60)).heap[w.heap.size + 1]? = some (.cells ZA 60 (0, 0)) := by
    have := heap_alloc_new (w.alloc (.cells ZA 60)) (.cells ZA 60)
    simpa using this
  have hS : Hid (((w.alloc (.cells ZA 60)).alloc (.cells ZA 60)).heap.size = w.heap.size + 2) := by show _ = _; simp
  have HG2 := hid hg2
  have HG3 := hid hg3
  clear hg2 hg3
  obtain ⟨W, hW⟩ := hidden ((w.alloc (.cells ZA 60)).alloc (.cells ZA 60))
  rw [hW.out] at hB HG2 HG3 hS ⊢
  have hWc : CutAt 41 W p (Classical.choose h) xs bad := by
    obtain ⟨A, c, h1, h2, h3⟩ := hc0
    exact ⟨A, c, by rw [hB.block p hpl]; exact h1, h2.below hB, h3⟩
  refine (hoff W hB hWc).mono ?_
  rintro e w2 ⟨v, kb2, rfl, ho2, hd2, g2, hk2⟩
  have hs1 := hS.out
  have HG4 := hid ((g2.block w.heap.size (by omega) (fun e => by have := Option.some.inj e; omega)).trans HG2.out)
  have HG5 := hid ((g2.block (w.heap.size + 1) (by omega) (fun e => by have := Option.some.inj e; omega)).trans HG3.out)
  clear hs1
  have hrv := RV_own ho2
  have hDm : D.length ≤ 9223372036854775807 := by omega
  obtain ⟨vA, vc, rfl⟩ := hrv.slice
  go_wp2_with fail
  go_loopw [6] (fun i wr => ∃ m : Nat, m ≤ D.length ∧ i = .int .i64 (m : Int) ∧ Hid (wr.heap[w.heap.size + 1]? = some (.cells (bs (mid D m)).toArray 60 (0, 0))) ∧ w2.grownBy wr (some (w.heap.size + 1))) (fun i _ => D.length - (intOf i).toNat)
  case atStart => exact ⟨0, Nat.zero_le _, rfl, by show _ = _; rw [HG5.out, HZ.out]; simp [mid], ⟨rfl, rfl, rfl, Nat.le_refl _, fun _ _ _ => rfl⟩⟩
  case round =>
    obtain ⟨m, hm, rfl, hblk, hgr⟩ := hrel
    have ho3 := ho2.kept hgr (by
      cases hv : (Value.slice vA D.length vc).ownBlock with
      | none => exact .inl rfl
      | some k => exact .inr fun e => by have := ho2.lt k hv; have := hS.out; have := Option.some.inj e; omega)
    have hrv3 := RV_own ho3
    by_cases hmd : m < D.length
    · obtain ⟨b, o, u, rfl, hu, hcell, hbw⟩ := hrv3.at_ m hmd
      rw [bs_at _ m hmd] at hu
      have hu2 := (Option.some.inj hu).symm
      subst hu2
      have hml := mid_length D m hm (by omega)
      obtain ⟨cc, hg0⟩ : ∃ z : Nat, wr.cell? ⟨w.heap.size + 1, m, none⟩ = some (.int .u8 (z : Int)) := ⟨((mid D m)[m]'(by omega)).toNat, by rw [cell_of_row wr _ _ _ _ _ hblk.out, List.getElem?_toArray]; exact bs_at _ m _⟩
      have hf0 : wr.frozen? ⟨w.heap.size + 1, m, none⟩ = false := frozen_of_row wr _ _ _ _ hblk.out
      obtain ⟨cb, hcb⟩ := hidden D[m]
      rw [hcb.out] at hcell
      clear hml hu
      go_wp2_with fail
      go_roundw
      case rel =>
        refine ⟨m + 1, by omega, by go_num, ?_, grown_trans hgr (grown_setCell _ _ _ _)⟩
        show _ = _
        rw [heap_setCell_same wr _ m _ _ _ hblk.out, List.setIfInBounds_toArray, bs_set, ← hcb.out, mid_set D m hmd (by omega)]
      case measure => simp [intOf]; omega
    · obtain rfl : m = D.length := by omega
      rw [← hR.out] at hblk
      have hRl : (bs R).length = 32 := by rw [hR.out, bs_length, mid_length D _ (Nat.le_refl _) hD]
      have HRL := hid hRl
      clear hRl
      have HG6 := hid ((hgr.block w.heap.size (by have := g2.size; have := hS.out; omega) (fun e => by have := Option.some.inj e; omega)).trans HG4.out)
      go_wp2_with (first | (refine wpList_load_row rfl 60 (.tmp 3) rfl (w.heap.size + 1) rfl 60 (bs R).toArray (0, 0) _ hblk.out Try.underlying60 rfl (by rw [List.size_toArray, HRL.out]; exact size_arr) ?_) | (refine wpList_store_row rfl 60 (.tmp 2) (.tmp 24) rfl w.heap.size (bs R).toArray rfl rfl 60 ZA HG6.out (by rw [List.size_toArray, HRL.out]; exact size_arr) (by rw [HZ.out, List.size_toArray, List.size_toArray, HRL.out]; rfl) (all_oneCell_toArray (bs_one _)) ?_))
      have hblk7 : (wr.setRow w.heap.size (bs R).toArray).heap[w.heap.size]? = some (.cells (bs R).toArray 60 (0, 0)) := setRow_heap wr _ _ _ _ _ HG6.out
      have hgr7 : wr.grownBy (wr.setRow w.heap.size (bs R).toArray) (some w.heap.size) := ⟨rfl, rfl, rfl, by simp, fun k _ hk => setRow_other wr _ _ _ (fun e => hk (by rw [e]))⟩
      have hs1 := hS.out
      have hd3 := hd2.other hgr (by omega) (fun hx => by rcases hk2 hx with h | h <;> omega)
      have hd4 := hd3.other hgr7 (by omega) (fun hx => by rcases hk2 hx with h | h <;> omega)
      refine bodyPost_ret (v := .agg (bs R).toArray) (results_cell_row (p := 2) (ty := 60) rfl _ _ w.heap.size 60 (bs R).toArray (0, 0) _ rfl hblk7 Try.underlying60 rfl (by rw [List.size_toArray, HRL.out]; exact size_arr)) rfl ⟨rfl, ⟨_, hd4⟩, ?_⟩
      have hg1 := grown_trans (grown_of_below hB _) g2
      exact ⟨hgr7.os.trans (hgr.os.trans hg1.os), hgr7.tape.trans (hgr.tape.trans hg1.tape), hgr7.output.trans (hgr.output.trans hg1.output), Nat.le_trans hg1.size (Nat.le_trans hgr.size hgr7.size), fun i hi hr => ((hgr7.block i (Nat.lt_of_lt_of_le hi (Nat.le_trans hg1.size hgr.size)) (fun e => by have := Option.some.inj e; omega)).trans (hgr.block i (Nat.lt_of_lt_of_le hi hg1.size) (fun e => by have := Option.some.inj e; omega))).trans (hg1.block i hi hr)⟩
theorem dsum_calls (w : World) (p : Nat) (xs : List UInt8) (bad : Bool) (h : DCut w p xs bad) (hl : xs.length ≤ 140737488355328) (R xs' : List UInt8) (bad' : Bool) (hN : Hid (sumR xs bad = (R, xs', bad'))) :
    Calls Try.prog 40 #[.pointer (some ⟨p, 0, none⟩)] w fun e w' => e = .returned (.agg (bs R).toArray) ∧ DCut w' p xs' bad' ∧ w.grownBy w' (some p) := by
  have hN' := hN.out
  unfold sumR at hN'
  by_cases hok : bad = false ∧ 32 ≤ xs.length
  · rw [if_pos hok] at hN'
    simp only [Prod.mk.injEq] at hN'
    obtain ⟨rfl, rfl, rfl⟩ := hN'
    obtain ⟨rfl, h32⟩ := hok
    have hDl : (xs.take 32).length = 32 := by rw [List.length_take]; omega
    refine dsum_loop w p xs false h hl (xs.take 32) (xs.take 32) (xs.drop 32) false (by show _ = _; rw [hDl]; simp [mid, List.take_take]) (by omega) fun W hB hW => ?_
    refine (roff_ok W p xs hW 32 (by decide) h32 hl).mono ?_
    rintro e w2 ⟨v, kb', rfl, ho, hd, hg, hk⟩
    exact ⟨v, kb', rfl, by rw [hDl]; exact ho, hd, hg, fun _ => .inr hk⟩
  · rw [if_neg hok] at hN'
    simp only [Prod.mk.injEq] at hN'
    obtain ⟨rfl, rfl, rfl⟩ := hN'
    refine dsum_loop w p xs bad h hl [] (List.replicate 32 0) xs true (by show _ = _; simp [mid]) (by simp) fun W hB hW => ?_
    refine (roff_no W p xs bad hW 32 true (by cases bad; simp at hok; right; right; omega; exact .inl rfl)).mono ?_
    rintro e w2 ⟨rfl, hd, hg⟩
    exact ⟨_, _, rfl, World.ownsRow_nil _ _ _ _, hd, hg, fun hx => .inl ((Classical.choose_spec h).kb_lt hx)⟩
/-- The end: whether there was a fault, or something is left. -/
theorem ddone_calls (w : World) (p : Nat) (xs : List UInt8) (bad : Bool) (h : DCut w p xs bad) (b : Bool) (hb : Hid (b = (bad || decide (0 < xs.length)))) :
    Calls Try.prog 41 #[.pointer (some ⟨p, 0, none⟩)] w fun e w' => e = .returned (.bool b) ∧ DCut w' p xs b ∧ w.grownBy w' (some p) := by
  obtain ⟨kb, h⟩ := h
  obtain ⟨A, c, h0, h1, hr, hf0, hf1, hkb⟩ := h.cells
  have hfin := h.failed b
  have hg := grown_setCell w p 1 (.bool b)
  have hmx := hr.max
  cases hbad : bad with
  | true =>
    subst hbad
    obtain rfl : b = true := by rw [hb.out]; simp
    go_enter Try.func41, Try.ntmps41
    go_wp2
    go_ret
    exact ⟨rfl, ⟨_, hfin⟩, hg⟩
  | false =>
    subst hbad
    by_cases hx : 0 < xs.length
    · obtain rfl : b = true := by rw [hb.out, decide_eq_true hx]; rfl
      have hx0 : decide ((0 : Int) < (xs.length : Int)) = true := decide_eq_true (by omega)
      go_enter Try.func41, Try.ntmps41
      go_wp2
      go_ret
      exact ⟨rfl, ⟨_, hfin⟩, hg⟩
    · obtain rfl : b = false := by rw [hb.out, decide_eq_false hx]; rfl
      have hx0 : decide ((0 : Int) < (xs.length : Int)) = false := decide_eq_false (by omega)
      go_enter Try.func41, Try.ntmps41
      go_wp2
      go_ret
      exact ⟨rfl, ⟨_, hfin⟩, hg⟩
end Go.Proofs.Ytgdemfjlhcepiaa
