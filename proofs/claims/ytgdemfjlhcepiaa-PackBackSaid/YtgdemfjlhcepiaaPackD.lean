import Derived.Test.YtgdemfjlhcepiaaPackC
import Derived.Deep.RegionLaw
import Derived.Laws.CopyOwn
set_option linter.unusedVariables false
set_option linter.unusedSimpArgs false
namespace Go.Proofs.Ytgdemfjlhcepiaa
open Go.RowKit
attribute [local go_sem] eq_bytes_nil
variable {kb : Nat}
theorem off_yes (t : TypeId) (w : World) (p : Nat) (xs : List UInt8) (h : CutAt t w p kb xs false) (n : Nat) (hn : 0 < n) (hl : n ≤ xs.length) :
    Calls Try.prog 34 #[.pointer (some ⟨p, 0, none⟩), .int .i64 (Int.ofNat n), .bool true] w fun e w' => ∃ b o, e = .returned (.slice (some ⟨b, o, none⟩) n n) ∧ w.grownBy w' (some p) ∧ RV w' (.slice (some ⟨b, o, none⟩) n n) n 1 (bs (xs.take n)) ∧ CutAt t w' p kb (xs.drop n) false :=
  (off_calls t w p xs false h n true (fun _ => hn)).mono fun e w' hh => by
    obtain ⟨v, rfl, hg, hu⟩ := hh
    rcases hu with ⟨hf, _⟩ | ⟨_, _, _, ⟨b, o, rfl⟩, hr, hc⟩
    · exact absurd hf (by simp; omega)
    · exact ⟨b, o, rfl, hg, hr, hc⟩
theorem off_no (t : TypeId) (w : World) (p : Nat) (xs : List UInt8) (bad : Bool) (h : CutAt t w p kb xs bad) (n : Nat) (hn : 0 < n) (hl : bad = true ∨ xs.length < n) :
    Calls Try.prog 34 #[.pointer (some ⟨p, 0, none⟩), .int .i64 (Int.ofNat n), .bool true] w fun e w' => e = .returned (.slice none 0 0) ∧ w.grownBy w' (some p) ∧ CutAt t w' p kb xs true :=
  (off_calls t w p xs bad h n true (fun _ => hn)).mono fun e w' hh => by
    obtain ⟨v, rfl, hg, hu⟩ := hh
    rcases hu with ⟨_, rfl, hc⟩ | ⟨rfl, _, h1, _⟩
    · exact ⟨rfl, hg, hc⟩
    · exact absurd hl (by simp; omega)
/-- A sum that is cut off. -/
def sumR (xs : List UInt8) (bad : Bool) : List UInt8 × List UInt8 × Bool :=
  if bad = false ∧ 32 ≤ xs.length then (xs.take 32, xs.drop 32, false) else (List.replicate 32 0, xs, true)

theorem csum_block {w W w2 : World} {v : Value} {xs : List UInt8} {bad : Bool} (h : CutV w v kb xs bad) {o : Obj} (hs : Hid (W.heap.size = w.heap.size + 1)) (hg : Hid (W.heap[w.heap.size]? = some o)) (hgv : W.drew.grownBy w2 (cutBlk v)) : Hid (w2.heap[w.heap.size]? = some o) :=
  (hgv.block w.heap.size (by have := hs.out; show _ < W.heap.size; omega) (fun e => by have := h.lt _ e.symm; omega)).trans hg.out
theorem rv_cells {w : World} {b o n c : Nat} {xs : List Value} (h : RV w (.slice (some ⟨b, o, none⟩) n c) n 1 xs) (hn : 0 < n) (j : Nat) (u : Value) (hj : xs[j]? = some u) : w.cell? ((⟨b, o, none⟩ : Addr).add j) = some u := by
  rcases h.parts (by decide) with ⟨h0, _⟩ | ⟨_, b', o', c', e, _, hc⟩
  · omega
  · simp only [Value.slice.injEq, Option.some.injEq, Addr.mk.injEq, and_true, true_and] at e
    obtain ⟨⟨rfl, rfl⟩, rfl⟩ := e
    rw [add_plain]; exact hc j u hj
theorem sum_splice {ZA : Array Value} {cs : List Value} (hz : Hid (ZA = (bs (List.replicate 32 0)).toArray)) (hl : Hid (cs.length = 32)) : (ZA.toList.take 0 ++ cs ++ ZA.toList.drop (0 + cs.length)).toArray = cs.toArray := by
  rw [hz.out, hl.out]
  have : (bs (List.replicate 32 (0 : UInt8))).toArray.toList.drop (0 + 32) = [] := by rfl
  rw [this]; simp
theorem size_arr : (Try.prog.info? 60).map (·.size) = some 32 := by kernel_rfl
set_option maxRecDepth 100000 in
theorem csum_no (w : World) (v : Value) (xs : List UInt8) (bad : Bool) (h : CutV w v kb xs bad) (hl : bad = true ∨ xs.length < 32) :
    Calls Try.prog 27 #[v] w fun e w' => e = .returned (.agg (bs (List.replicate 32 0)).toArray) ∧ CutV w' v kb xs true ∧ w.grownBy w' (cutBlk v) := by
  have hnone := h.nobody
  have HN := hid hnone
  clear hnone
  go_enter Try.func27, Try.ntmps27
  go_wp2_with fail
  generalize hZ : (#[Value.int .u8 0, Value.int .u8 0, Value.int .u8 0, Value.int .u8 0, Value.int .u8 0, Value.int .u8 0, Value.int .u8 0, Value.int .u8 0, Value.int .u8 0, Value.int .u8 0, Value.int .u8 0, Value.int .u8 0, Value.int .u8 0, Value.int .u8 0, Value.int .u8 0, Value.int .u8 0, Value.int .u8 0, Value.int .u8 0, Value.int .u8 0, Value.int .u8 0, Value.int .u8 0, Value.int .u8 0, Value.int .u8 0, Value.int .u8 0, Value.int .u8 0, Value.int .u8 0, Value.int .u8 0, Value.int .u8 0, Value.int .u8 0, Value.int .u8 0, Value.int .u8 0, Value.int .u8 0] : Array Value) = ZA
  have HZ : Hid (ZA = (bs (List.replicate 32 0)).toArray) := by show _ = _; rw [← hZ]; rfl
  clear hZ
  have hB := (Below.refl w.heap.size w).alloc (Nat.le_refl _) (.cells ZA 60)
  have h2 := h.below hB
  have HG := hid (heap_alloc_new w (.cells ZA 60))
  have HS : Hid ((w.alloc (.cells ZA 60)).heap.size = w.heap.size + 1) := by show _ = _; simp
  obtain ⟨W, hW⟩ := hidden (w.alloc (.cells ZA 60))
  rw [hW.out] at h2 hB HG HS ⊢
  have h3 : CutV W.drew v kb xs bad := h2.below ((Below.refl _ _).drew)
  have hcn := fun wx : World => run_copy_nil (P := Try.prog) wx 23 23 3 5 ⟨w.heap.size, 0, none⟩ 32 32 Try.underlying23 (by kernel_rfl)
  go_region_with (first | (go_at_call 32; refine (in_calls _ _ xs bad h3).mono ?_; rintro e w1 ⟨q, t, rfl, hc, hb, hz⟩) | (go_at_call 34; refine (off_no _ _ _ xs bad hc 32 (by decide) hl).mono ?_; rintro e w2 ⟨rfl, hg, hcu⟩))
  obtain ⟨hcv, hgv⟩ := hb _ _ _ hg hcu (fun e => ⟨(HN.out e).1, rfl⟩)
  have hblk := csum_block h HS HG hgv
  go_wp2_with (first | (refine wpList_load_row rfl 60 (.tmp 2) rfl w.heap.size rfl 60 ZA (0, 0) _ hblk.out Try.underlying60 rfl (by rw [HZ.out]; exact size_arr) ?_) | (refine wpList_store_row rfl 60 (.tmp 2) (.tmp 8) rfl w.heap.size ZA rfl rfl 60 ZA hblk.out (by rw [HZ.out]; exact size_arr) rfl (by rw [HZ.out]; exact all_oneCell_toArray (bs_one _)) ?_; rw [setRow_self _ _ _ _ _ hblk.out]))
  refine bodyPost_ret (v := .agg ZA) (results_cell_row (p := 2) (ty := 60) rfl _ _ w.heap.size 60 ZA (0, 0) _ rfl hblk.out Try.underlying60 rfl (by rw [HZ.out]; exact size_arr)) rfl ⟨by rw [HZ.out], hcv, grown_trans (grown_of_below hB.drew _) hgv⟩
set_option maxRecDepth 100000 in
theorem csum_ok (w : World) (v : Value) (xs : List UInt8) (h : CutV w v kb xs false) (hl : 32 ≤ xs.length) :
    Calls Try.prog 27 #[v] w fun e w' => e = .returned (.agg (bs (xs.take 32)).toArray) ∧ CutV w' v kb (xs.drop 32) false ∧ w.grownBy w' (cutBlk v) := by
  have hnone := h.nobody
  have hv0 : v ≠ .pointer none := fun e => absurd (hnone e).2 (by simp)
  clear hnone
  go_enter Try.func27, Try.ntmps27
  go_wp2_with fail
  generalize hZ : (#[Value.int .u8 0, Value.int .u8 0, Value.int .u8 0, Value.int .u8 0, Value.int .u8 0, Value.int .u8 0, Value.int .u8 0, Value.int .u8 0, Value.int .u8 0, Value.int .u8 0, Value.int .u8 0, Value.int .u8 0, Value.int .u8 0, Value.int .u8 0, Value.int .u8 0, Value.int .u8 0, Value.int .u8 0, Value.int .u8 0, Value.int .u8 0, Value.int .u8 0, Value.int .u8 0, Value.int .u8 0, Value.int .u8 0, Value.int .u8 0, Value.int .u8 0, Value.int .u8 0, Value.int .u8 0, Value.int .u8 0, Value.int .u8 0, Value.int .u8 0, Value.int .u8 0, Value.int .u8 0] : Array Value) = ZA
  have HZ : Hid (ZA = (bs (List.replicate 32 0)).toArray) := by show _ = _; rw [← hZ]; rfl
  clear hZ
  have hB := (Below.refl w.heap.size w).alloc (Nat.le_refl _) (.cells ZA 60)
  have h2 := h.below hB
  have HG := hid (heap_alloc_new w (.cells ZA 60))
  have HS : Hid ((w.alloc (.cells ZA 60)).heap.size = w.heap.size + 1) := by show _ = _; simp
  obtain ⟨W, hW⟩ := hidden (w.alloc (.cells ZA 60))
  rw [hW.out] at h2 hB HG HS ⊢
  have h3 : CutV W.drew v kb xs false := h2.below ((Below.refl _ _).drew)
  have hl32 : (bs (xs.take 32)).length = 32 := by rw [bs_length, List.length_take]; omega
  have HL := hid hl32
  clear hl32
  go_region_with (first | (go_at_call 32; refine (in_calls _ _ xs false h3).mono ?_; rintro e w1 ⟨q, t, rfl, hc, hb, hz⟩) | (go_at_call 34; refine (off_yes _ _ _ xs hc 32 (by decide) hl).mono ?_; rintro e w2 ⟨ub, uo, rfl, hg, hru, hcu⟩; obtain ⟨hcv, hgv⟩ := hb _ _ _ hg hcu (fun e => absurd e hv0); have hblk := csum_block h HS HG hgv; have hcp := run_copy_row (P := Try.prog) w2 23 23 3 5 w.heap.size 0 32 32 ⟨ub, uo, none⟩ 32 32 ZA 60 (bs (xs.take 32)) Try.underlying23 (by kernel_rfl) hblk.out (by rw [HL.out]; rfl) (rv_cells hru (by decide)) (by rw [HL.out, HZ.out]; decide) (bs_one _); rw [sum_splice HZ HL] at hcp))
  obtain ⟨W2, hW2⟩ := hidden (w2.setRow w.heap.size (bs (xs.take 32)).toArray)
  have hblk2 : Hid (W2.heap[w.heap.size]? = some (.cells (bs (xs.take 32)).toArray 60 (0, 0))) := by show _ = _; rw [← hW2.out]; exact setRow_heap w2 _ _ _ _ _ hblk.out
  have hgr : Hid (w2.grownBy W2 (some w.heap.size)) := by show World.grownBy _ _ _; rw [← hW2.out]; exact ⟨rfl, rfl, rfl, by simp, fun k _ hk => setRow_other w2 _ _ _ (fun e => hk (by rw [e]))⟩
  rw [hW2.out]
  have hlt : kb < w.heap.size := h.kb_lt (by intro e; subst e; simp at hl)
  have hcv2 := hcv.other hgr.out (by right; intro e; exact absurd (h.lt _ e) (by omega)) (fun _ e => absurd (Option.some.inj e) (by omega))
  go_wp2_with (first | (refine wpList_load_row rfl 60 (.tmp 2) rfl w.heap.size rfl 60 (bs (xs.take 32)).toArray (0, 0) _ hblk2.out Try.underlying60 rfl (by rw [List.size_toArray, HL.out]; exact size_arr) ?_) | (refine wpList_store_row rfl 60 (.tmp 2) (.tmp 8) rfl w.heap.size (bs (xs.take 32)).toArray rfl rfl 60 (bs (xs.take 32)).toArray hblk2.out (by rw [List.size_toArray, HL.out]; exact size_arr) rfl (all_oneCell_toArray (bs_one _)) ?_; rw [setRow_self _ _ _ _ _ hblk2.out]))
  refine bodyPost_ret (v := .agg (bs (xs.take 32)).toArray) (results_cell_row (p := 2) (ty := 60) rfl _ _ w.heap.size 60 (bs (xs.take 32)).toArray (0, 0) _ rfl hblk2.out Try.underlying60 rfl (by rw [List.size_toArray, HL.out]; exact size_arr)) rfl ⟨rfl, hcv2, ?_⟩
  have hg1 := grown_trans (grown_of_below hB.drew _) hgv
  exact ⟨hgr.out.os.trans hg1.os, hgr.out.tape.trans hg1.tape, hgr.out.output.trans hg1.output, Nat.le_trans hg1.size hgr.out.size, fun i hi hr => (hgr.out.block i (Nat.lt_of_lt_of_le hi hg1.size) (fun e => by have := Option.some.inj e; omega)).trans (hg1.block i hi hr)⟩
end Go.Proofs.Ytgdemfjlhcepiaa
