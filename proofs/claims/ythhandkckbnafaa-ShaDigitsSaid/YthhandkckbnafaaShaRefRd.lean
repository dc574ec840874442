/-
  The walk of the document's Read: it answers as the given program's.
-/
import Derived.Test.YthhandkckbnafaaShaRef
set_option linter.unusedVariables false
set_option linter.unusedSimpArgs false
namespace Go.Proofs.Ythhandkckbnafaa
open Go.RowKit Go.Proofs.YthhandkckbnafaaZ.ZA Go.Proofs.YthhandkckbnafaaW.PrintWords Go.Proofs.YthhandkckbnafaaW.PrintLast Go.Proofs.YthhandkckbnafaaW.PrintMore
theorem isD_le {c : UInt8} (h : isD c = true) : 0 ≤ dg c := by unfold isD at h; exact of_decide_eq_true h
theorem outK_pair (N : List Nat) (d1 d2 k : Nat) (hN : N.length = 2 * k) (hk : k < 32) : outK (N ++ [d1, d2]) = (outK N).set k (UInt8.ofNat (16 * d1 + d2)) := by
  have h0 : outB N k = 0 := by
    unfold outB
    rw [if_neg (by omega), List.getD, List.getElem?_eq_none (by omega)]; rfl
  have e1 := outK_step N d1 (by omega)
  have e2 := outK_step (N ++ [d1]) d2 (by simp; omega)
  have hb := outB_here N d1
  rw [hN, show 2 * k / 2 = k by omega] at e1 hb
  rw [List.length_append, hN, List.length_singleton, show (2 * k + 1) / 2 = k by omega, hb, h0, Nat.mul_zero, Nat.zero_add, e1, List.set_set] at e2
  rw [← e2]
  simp
/-- On the way through the text. -/
def RF (w W : World) (N : List Nat) : Prop := W.heap[w.heap.size]? = some (.cells z32 26 (0, 0)) ∧ W.heap[w.heap.size + 1]? = some (.cells (bs (outK N)).toArray 26 (0, 0)) ∧ Below w.heap.size w W
theorem RF.below {w W W' : World} {N : List Nat} (h : RF w W N) (hb : Below W.heap.size W W') : RF w W' N := ⟨blk_below h.1 hb, blk_below h.2.1 hb, h.2.2.trans (hb.mono h.2.2.size)⟩
theorem RF.drew {w W : World} {N : List Nat} (h : RF w W N) : RF w W.drew N := h.below (Below.refl _ _).drew
theorem RF.cell {w W : World} {N : List Nat} (h : RF w W N) (j : Nat) (hj : j < 32) : ∃ x : UInt8, W.cell? ⟨w.heap.size + 1, j, none⟩ = some (.int .u8 (x.toNat : Int)) := by
  refine ⟨(outK N)[j]'(by rw [outK_length]; exact hj), ?_⟩
  rw [blk_cell h.2.1, List.getElem?_toArray]
  exact bs_at _ j (by rw [outK_length]; exact hj)
theorem RF.put {w W : World} {N : List Nat} {k d1 d2 : Nat} (h : RF w W N) (hN : N.length = 2 * k) (hk : k < 32) (h1 : d1 < 16) (h2 : d2 < 16) : RF w (W.setCell ⟨w.heap.size + 1, k, none⟩ (.int .u8 ((16 * d1 + d2 : Nat) : Int))) (N ++ [d1, d2]) := by
  obtain ⟨g1, g2, g3⟩ := h
  refine ⟨blk_far g1 (by show w.heap.size ≠ w.heap.size + 1; omega) _, blk_put g2 _ _ ?_, g3.setCell (by show w.heap.size ≤ w.heap.size + 1; omega) _⟩
  rw [outK_pair N d1 d2 k hN hk, List.setIfInBounds_toArray]
  unfold bs
  rw [List.map_set, u8n _ (by omega)]
set_option maxHeartbeats 4000000 in
set_option maxRecDepth 100000 in
theorem refRead_calls (s : ByteArray) (w : World) :
    Calls Try.prog 23 #[.string s] w fun e w' => e = .returned (.tuple #[.agg (bs (rdO (tb s))).toArray, .bool (rdOk (tb s))]) ∧ Below w.heap.size w w' := by
  have hsz : (Try.prog.info? 26).map (·.size) = some z32.size := size32
  have hz1 : z32.all (·.oneCell') = true := all_oneCell_toArray (bs_one _)
  have h20 : ((w.alloc (.cells z32 26)).alloc (.cells z32 26)).heap[w.heap.size]? = some (.cells z32 26 (0, 0)) := blk_alloc (heap_alloc_new w _) _
  have h21 : ((w.alloc (.cells z32 26)).alloc (.cells z32 26)).heap[w.heap.size + 1]? = some (.cells z32 26 (0, 0)) := by
    have := heap_alloc_new (w.alloc (.cells z32 26)) (.cells z32 26)
    simpa using this
  have hb2 : Below w.heap.size w ((w.alloc (.cells z32 26)).alloc (.cells z32 26)) := ((Below.refl _ _).alloc (Nat.le_refl _) _).alloc (by simp) _
  by_cases hlen : (s.size : Int) = 64
  · have hsl : (tb s).length = 64 := by rw [tb_length]; omega
    have hK0 : RF w ((w.alloc (.cells z32 26)).alloc (.cells z32 26)) (nib ((tb s).take (2 * 0))) := ⟨h20, by rw [Nat.mul_zero, List.take_zero, show nib [] = [] from rfl, outK_nil]; exact h21, hb2⟩
    have AS := Aside0.mk hsl
    have hss : s.size = 64 := by omega
    clear h20 h21 hsl hb2
    go_enter Try.func23, Try.ntmps23
    go_wp2_with fail
    go_loopw [5] (fun i wr => ∃ k : Nat, k ≤ 32 ∧ i = .int .i64 (k : Int) ∧ RF w wr (nib ((tb s).take (2 * k))) ∧ ((tb s).take (2 * k)).all isD = true) (fun i _ => 32 - (intOf i).toNat)
    case atStart => exact ⟨0, Nat.zero_le _, rfl, hK0, rfl⟩
    case round =>
      clear hK0
      obtain ⟨k, hk, rfl, hK, hall⟩ := hrel
      by_cases hp : k < 32
      · obtain ⟨c1, hc1⟩ : ∃ c, (tb s).getD (2 * k) 0 = c := ⟨_, rfl⟩
        obtain ⟨c2, hc2⟩ : ∃ c, (tb s).getD (2 * k + 1) 0 = c := ⟨_, rfl⟩
        have hx1 := index_str s (2 * k) (by omega)
        have hx2 := index_str s (2 * k + 1) (by omega)
        rw [hc1, show ((2 * k : Nat) : Int) = 2 * (k : Int) by omega] at hx1
        rw [hc2, show ((2 * k + 1 : Nat) : Int) = 2 * (k : Int) + 1 by omega] at hx2
        have b1 : -1000000000 ≤ 2 * (k : Int) ∧ 2 * (k : Int) ≤ 1000000000 := by omega
        have b2 : -1000000000 ≤ 2 * (k : Int) + 1 ∧ 2 * (k : Int) + 1 ≤ 1000000000 := by omega
        have hl1 : 2 * k < (tb s).length := by rw [AS.out]; omega
        have hl2 : 2 * k + 1 < (tb s).length := by rw [AS.out]; omega
        have hg1 : (tb s)[2 * k] = c1 := by rw [List.getD, List.getElem?_eq_getElem hl1] at hc1; exact hc1
        have hg2 : (tb s)[2 * k + 1] = c2 := by rw [List.getD, List.getElem?_eq_getElem hl2] at hc2; exact hc2
        have htk : (tb s).take (2 * (k + 1)) = (tb s).take (2 * k) ++ [c1, c2] := by
          rw [show 2 * (k + 1) = 2 * k + 1 + 1 by omega, List.take_succ_eq_append_getElem hl2, List.take_succ_eq_append_getElem hl1, hg1, hg2, List.append_assoc]
          rfl
        have hf1 := dg_facts c1
        have hf2 := dg_facts c2
        obtain ⟨a, ha⟩ : ∃ a : Int, (if isD c1 then dg c1 else 16) = a := ⟨_, rfl⟩
        obtain ⟨b, hb⟩ : ∃ b : Int, (if isD c2 then dg c2 else 16) = b := ⟨_, rfl⟩
        have hC1 := half_calls c1
        have hC2 := half_calls c2
        rw [ha] at hC1
        rw [hb] at hC2
        have HC1 := Aside0.mk hC1
        have HC2 := Aside0.mk hC2
        have hNl : (nib ((tb s).take (2 * k))).length = 2 * k := by unfold nib; rw [List.length_map, List.length_take, AS.out]; omega
        have k0 : (0 : Int) ≤ (k : Int) := by omega
        have k1 : (k : Int) < 32 := by omega
        have K12 := hK.drew
        have AN := Aside0.mk hNl
        have AT := Aside0.mk htk
        have AA := Aside0.mk hall
        have A1 := Aside0.mk ha
        have A2 := Aside0.mk hb
        have F1 := Aside0.mk hf1
        have F2 := Aside0.mk hf2
        have AG1 := Aside0.mk hg1
        have AG2 := Aside0.mk hg2
        clear hC1 hC2 hNl htk hall ha hb hf1 hf2 hK hg1 hg2 hc1 hc2
        generalize hNN : nib ((tb s).take (2 * k)) = N at K12 AN
        have AN2 := Aside0.mk hNN.symm
        clear hNN
        have hw1 := wrap64_id _ b1.1 b1.2
        have hw2 := wrap64_id _ b2.1 b2.2
        clear b1 b2
        go_wp2_with fail
        refine start_ (n := 13) (S := fun w' => True) (ds := []) #[false, false, false, false, false, false, false, false, false, false, false, false, false] (by kernel_rfl) rfl rfl trivial (fun hHeld => ?_)
        generalize wr.drew = w12 at K12 hHeld ⊢
        have BL := Below.refl w12.heap.size w12
        refine pure_ (i := 0) (N := some 16) (v := ?_) (a' := ?_) #[true, false, false, false, false, false, false, false, false, false, false, false, false] rfl rfl (by kernel_rfl) (fun _ _ _ h => h) (Or.inl ⟨by rfl, ?_⟩) ?_ ?_
        rotate_left
        · intro w'
          go_simp
          with_reducible rfl
        rotate_left
        · simp only [Act.put, List.setIfInBounds_toArray, List.set_cons_zero, List.set_cons_succ, i64_w, i32_w]
          rfl
        refine pure_ (i := 1) (N := some 17) (v := ?_) (a' := ?_) #[true, true, false, false, false, false, false, false, false, false, false, false, false] rfl rfl (by kernel_rfl) (fun _ _ _ h => h) (Or.inl ⟨by rfl, ?_⟩) ?_ ?_
        rotate_left
        · intro w'
          go_simp
          with_reducible rfl
        rotate_left
        · simp only [Act.put, List.setIfInBounds_toArray, List.set_cons_zero, List.set_cons_succ, i64_w, i32_w]
          rfl
        refine pure_ (i := 2) (N := some 18) (v := ?_) (a' := ?_) #[true, true, true, false, false, false, false, false, false, false, false, false, false] rfl rfl (by kernel_rfl) (fun _ _ _ h => h) (Or.inl ⟨by rfl, ?_⟩) ?_ ?_
        rotate_left
        · intro w'
          go_simp
          with_reducible rfl
        rotate_left
        · simp only [Act.put, List.setIfInBounds_toArray, List.set_cons_zero, List.set_cons_succ, i64_w, i32_w]
          rfl
        refine pure_ (i := 5) (N := some 21) (v := ?_) (a' := ?_) #[true, true, true, false, false, true, false, false, false, false, false, false, false] rfl rfl (by kernel_rfl) (fun _ _ _ h => h) (Or.inl ⟨by rfl, ?_⟩) ?_ ?_
        rotate_left
        · intro w'
          go_simp
          with_reducible rfl
        rotate_left
        · simp only [Act.put, List.setIfInBounds_toArray, List.set_cons_zero, List.set_cons_succ, i64_w, i32_w]
          rfl
        refine pure_ (i := 6) (N := some 22) (v := ?_) (a' := ?_) #[true, true, true, false, false, true, true, false, false, false, false, false, false] rfl rfl (by kernel_rfl) (fun _ _ _ h => h) (Or.inl ⟨by rfl, ?_⟩) ?_ ?_
        rotate_left
        · intro w'
          go_simp
          with_reducible rfl
        rotate_left
        · simp only [Act.put, List.setIfInBounds_toArray, List.set_cons_zero, List.set_cons_succ, i64_w, i32_w]
          rfl
        refine pure_ (i := 7) (N := some 23) (v := ?_) (a' := ?_) #[true, true, true, false, false, true, true, true, false, false, false, false, false] rfl rfl (by kernel_rfl) (fun _ _ _ h => h) (Or.inl ⟨by rfl, ?_⟩) ?_ ?_
        rotate_left
        · intro w'
          go_simp
          with_reducible rfl
        rotate_left
        · simp only [Act.put, List.setIfInBounds_toArray, List.set_cons_zero, List.set_cons_succ, i64_w, i32_w]
          rfl
        refine pure_ (i := 8) (N := some 24) (v := ?_) (a' := ?_) #[true, true, true, false, false, true, true, true, true, false, false, false, false] rfl rfl (by kernel_rfl) (fun _ _ _ h => h) (Or.inl ⟨by rfl, ?_⟩) ?_ ?_
        rotate_left
        · intro w'
          go_simp
          with_reducible rfl
        rotate_left
        · simp only [Act.put, List.setIfInBounds_toArray, List.set_cons_zero, List.set_cons_succ, i64_w, i32_w]
          rfl
        refine take_ (i := 3) (N := some 19) (v := ?_) (a' := ?_) #[true, true, true, true, false, true, true, true, true, false, false, false, false] rfl rfl (by kernel_rfl) (fun _ _ _ h => h) (Or.inl ⟨by rfl, ?_⟩) hHeld ?_ ?_
        rotate_left
        · intro w' _
          go_simp
          with_reducible rfl
        rotate_left
        · simp only [Act.put, List.setIfInBounds_toArray, List.set_cons_zero, List.set_cons_succ, i64_w, i32_w]
          rfl
        refine take_ (i := 9) (N := some 25) (v := ?_) (a' := ?_) #[true, true, true, true, false, true, true, true, true, true, false, false, false] rfl rfl (by kernel_rfl) (fun _ _ _ h => h) (Or.inl ⟨by rfl, ?_⟩) hHeld ?_ ?_
        rotate_left
        · intro w' _
          go_simp
          with_reducible rfl
        rotate_left
        · simp only [Act.put, List.setIfInBounds_toArray, List.set_cons_zero, List.set_cons_succ, i64_w, i32_w]
          rfl
        refine one_ (i := 4) (N := some 20) #[true, true, true, true, true, true, true, true, true, true, false, false, false] rfl rfl (by kernel_rfl) (by decide) (fun K hK => ?_)
        refine goes_ Try.func35 (by kernel_rfl) rfl #[.int .u8 ((c1.toNat : Nat) : Int)] (by rfl) rfl rfl (by simp only [List.map_toArray, List.map_cons, List.map_nil]; rfl) ?_
        with_reducible refine (HC1.out w12).mono ?_
        rintro e w13a ⟨rfl, hd_⟩
        refine ⟨_, rfl, ?_⟩
        have BLa := Below.trans BL (hd_.mono BL.size)
        refine hK.out _ _ trivial (fun hHeld => ?_)
        clear hK K
        refine norm_ (a' := ?_) ?_ ?_
        rotate_left
        · show Act.put _ (some 20) _ = _
          simp only [Act.put, List.setIfInBounds_toArray, List.set_cons_zero, List.set_cons_succ, i64_w, i32_w]
          rfl
        refine one_ (i := 10) (N := some 26) #[true, true, true, true, true, true, true, true, true, true, true, false, false] rfl rfl (by kernel_rfl) (by decide) (fun K hK => ?_)
        refine goes_ Try.func35 (by kernel_rfl) rfl #[.int .u8 ((c2.toNat : Nat) : Int)] (by rfl) rfl rfl (by simp only [List.map_toArray, List.map_cons, List.map_nil]; rfl) ?_
        with_reducible refine (HC2.out w13a).mono ?_
        rintro e w13 ⟨rfl, hd2_⟩
        refine ⟨_, rfl, ?_⟩
        have BL13 := Below.trans BLa (hd2_.mono BLa.size)
        refine hK.out _ _ trivial (fun hHeld => ?_)
        clear hK K
        refine norm_ (a' := ?_) ?_ ?_
        rotate_left
        · show Act.put _ (some 26) _ = _
          simp only [Act.put, List.setIfInBounds_toArray, List.set_cons_zero, List.set_cons_succ, i64_w, i32_w]
          rfl
        refine pure_ (i := 11) (N := some 6) (v := ?_) (a' := ?_) #[true, true, true, true, true, true, true, true, true, true, true, true, false] rfl rfl (by kernel_rfl) (fun _ _ _ h => h) (Or.inl ⟨by rfl, ?_⟩) ?_ ?_
        rotate_left
        · intro w'
          go_simp
          with_reducible rfl
        rotate_left
        · simp only [Act.put, List.setIfInBounds_toArray, List.set_cons_zero, List.set_cons_succ, i64_w, i32_w]
          rfl
        refine pure_ (i := 12) (N := some 7) (v := ?_) (a' := ?_) #[true, true, true, true, true, true, true, true, true, true, true, true, true] rfl rfl (by kernel_rfl) (fun _ _ _ h => h) (Or.inl ⟨by rfl, ?_⟩) ?_ ?_
        rotate_left
        · intro w'
          go_simp
          with_reducible rfl
        rotate_left
        · simp only [Act.put, List.setIfInBounds_toArray, List.set_cons_zero, List.set_cons_succ, i64_w, i32_w]
          rfl
        refine done_ (by kernel_rfl) ?_
        have K13 := K12.below BL13
        clear K12 BL BLa BL13 HC1 HC2 hx1 hx2 hw1 hw2
        by_cases h1 : isD c1 = true
        · have ha := A1.out
          rw [if_pos h1] at ha
          by_cases h2 : isD c2 = true
          · have hb := A2.out
            rw [if_pos h2] at hb
            have hp1 := isD_le h1
            have hp2 := isD_le h2
            obtain ⟨d1, hd1⟩ : ∃ d : Nat, dg c1 = (d : Int) := ⟨(dg c1).toNat, by omega⟩
            obtain ⟨d2, hd2⟩ : ∃ d : Nat, dg c2 = (d : Int) := ⟨(dg c2).toNat, by omega⟩
            have hf1 := F1.out
            have hf2 := F2.out
            have hl1 : d1 < 16 := by omega
            have hl2 : d2 < 16 := by omega
            have e1 : a = (d1 : Int) := by omega
            have e2 : b = (d2 : Int) := by omega
            rw [e1, e2]
            have hput := K13.put AN.out hp hl1 hl2
            have hNs : nib ((tb s).take (2 * (k + 1))) = N ++ [d1, d2] := by
              rw [AT.out, AN2.out]
              unfold nib
              rw [List.map_append]
              simp [hd1, hd2]
            have hAs : ((tb s).take (2 * (k + 1))).all isD = true := by
              rw [AT.out, List.all_append, AA.out]
              simp [h1, h2]
            obtain ⟨x, hx⟩ := K13.cell k hp
            have hfz := blk_frozen K13.2.1 k
            have q1 : ¬ ((15 : Int) < (d1 : Int)) := by omega
            have q2 : ¬ ((15 : Int) < (d2 : Int)) := by omega
            have b1 : -1000000000 ≤ 16 * (d1 : Int) ∧ 16 * (d1 : Int) ≤ 1000000000 := by omega
            have b2 : -1000000000 ≤ 16 * (d1 : Int) + (d2 : Int) ∧ 16 * (d1 : Int) + (d2 : Int) ≤ 1000000000 := by omega
            have q5 : IntKind.u8.wrap (16 * (d1 : Int) + (d2 : Int)) = 16 * (d1 : Int) + (d2 : Int) := u8_id _ (by omega) (by omega)
            rw [show (((16 * d1 + d2 : Nat) : Nat) : Int) = 16 * (d1 : Int) + (d2 : Int) by omega] at hput
            have AP := Aside0.mk hput
            have ANS := Aside0.mk hNs
            have AAS := Aside0.mk hAs
            have q3 := wrap64_id _ b1.1 b1.2
            have q4 := wrap64_id _ b2.1 b2.2
            clear ha hb hp1 hp2 hd1 hd2 hf1 hf2 e1 e2 hput hNs hAs h1 h2 b1 b2
            go_wp2_with fail
            clear q3 q4 q5
            go_roundw
            case rel => exact ⟨k + 1, by omega, by go_num, by rw [ANS.out]; exact AP.out, AAS.out⟩
            case measure => simp [intOf]; omega
          · have hb := A2.out
            rw [if_neg h2] at hb
            have hp1 := isD_le h1
            have hf1 := F1.out
            have q1 : ¬ ((15 : Int) < a) := by omega
            have q2 : (15 : Int) < b := by omega
            have hno : rdOk (tb s) = false := by
              unfold rdOk
              rw [Bool.and_eq_false_iff]
              refine .inr ?_
              rw [← Bool.not_eq_true, List.all_eq_true]
              intro h
              exact h2 (h c2 (by rw [← AG2.out]; exact List.getElem_mem _))
            have hO : rdO (tb s) = List.replicate 32 0 := by unfold rdO; rw [hno]; rfl
            have ANO := Aside0.mk hno
            have AO := Aside0.mk hO
            have A0 := Aside0.mk K13.1
            have AB1 := Aside0.mk K13.2.2
            clear hno hO K13 ha hb hp1 hf1 h1 h2
            go_wp2_with (refine wpList_store_row rfl 26 (.tmp 2) (.tmp 33) rfl w.heap.size z32 rfl rfl 26 _ A0.out hsz rfl hz1 ?_)
            have hrow := setRow_heap w13 w.heap.size z32 z32 _ _ A0.out
            refine bodyPost_ret (v := .tuple #[.agg z32, .bool false]) (results_cell_row_tmp (p := 2) (u := 3) (ty := 26) rfl _ _ w.heap.size 26 z32 (0, 0) _ rfl hrow Try.underlying26 rfl hsz) rfl ?_
            rw [AO.out, ANO.out]
            exact ⟨rfl, AB1.out.trans ⟨rfl, rfl, rfl, by simp, fun i hi => setRow_other _ _ _ _ (by omega)⟩⟩

        · have ha := A1.out
          rw [if_neg h1] at ha
          have q1 : (15 : Int) < a := by omega
          have hno : rdOk (tb s) = false := by
            unfold rdOk
            rw [Bool.and_eq_false_iff]
            refine .inr ?_
            rw [← Bool.not_eq_true, List.all_eq_true]
            intro h
            exact h1 (h c1 (by rw [← AG1.out]; exact List.getElem_mem _))
          have hO : rdO (tb s) = List.replicate 32 0 := by unfold rdO; rw [hno]; rfl
          have ANO := Aside0.mk hno
          have AO := Aside0.mk hO
          have A0 := Aside0.mk K13.1
          have AB1 := Aside0.mk K13.2.2
          clear hno hO K13 ha h1
          go_wp2_with (refine wpList_store_row rfl 26 (.tmp 2) (.tmp 33) rfl w.heap.size z32 rfl rfl 26 _ A0.out hsz rfl hz1 ?_)
          have hrow := setRow_heap w13 w.heap.size z32 z32 _ _ A0.out
          refine bodyPost_ret (v := .tuple #[.agg z32, .bool false]) (results_cell_row_tmp (p := 2) (u := 3) (ty := 26) rfl _ _ w.heap.size 26 z32 (0, 0) _ rfl hrow Try.underlying26 rfl hsz) rfl ?_
          rw [AO.out, ANO.out]
          exact ⟨rfl, AB1.out.trans ⟨rfl, rfl, rfl, by simp, fun i hi => setRow_other _ _ _ _ (by omega)⟩⟩

      · have hk64 : k = 32 := by omega
        subst hk64
        rw [List.take_of_length_le (by rw [AS.out]; exact Nat.le_refl _)] at hK hall
        have hok : rdOk (tb s) = true := by unfold rdOk; rw [decide_eq_true AS.out, hall]; rfl
        have hO : rdO (tb s) = outK (nib (tb s)) := by unfold rdO; rw [hok]; rfl
        have hg := hK.2.1
        have hr := hK.1
        have hb := hK.2.2
        rw [← hO] at hg
        have hol : (bs (rdO (tb s))).length = 32 := by rw [hO, bs_length, outK_length]
        have hs32 : (Try.prog.info? 26).map (·.size) = some (bs (rdO (tb s))).length := by rw [hol]; exact size32
        have hs32a : (Try.prog.info? 26).map (·.size) = some (bs (rdO (tb s))).toArray.size := by rw [List.size_toArray]; exact hs32
        have hza : z32.size = (bs (rdO (tb s))).toArray.size := by show 32 = _; rw [List.size_toArray, hol]
        have hone : (bs (rdO (tb s))).toArray.all (·.oneCell') = true := all_oneCell_toArray (bs_one _)
        have hrd : ∀ j u, (bs (rdO (tb s)))[j]? = some u → wr.cell? ⟨w.heap.size + 1, 0 + j, none⟩ = some u := fun j u hj => by rw [blk_cell hg (0 + j), Nat.zero_add, List.getElem?_toArray]; exact hj
        have hfin := setRow_heap wr w.heap.size z32 (bs (rdO (tb s))).toArray _ _ hr
        have AF := Aside0.mk hfin
        have AOK := Aside0.mk hok
        have ABB := Aside0.mk hb
        clear hfin hok hb hg hK hall hO hol
        generalize hD : bs (rdO (tb s)) = D at hs32 hs32a hza hone hrd AF
        have AD := Aside0.mk hD
        clear hD
        go_wp2_with (first | (refine wpList_load_at 26 (.tmp 4) (w.heap.size + 1) 0 D _ hrd Try.underlying26 rfl hs32 rfl rfl rfl ?_) | (refine wpList_store_row rfl 26 (.tmp 2) (.tmp 41) rfl w.heap.size D.toArray rfl rfl 26 _ hr hs32a hza hone ?_))
        refine bodyPost_ret (v := .tuple #[.agg D.toArray, .bool true]) (results_cell_row_tmp (p := 2) (u := 3) (ty := 26) rfl _ _ w.heap.size 26 D.toArray (0, 0) _ rfl AF.out Try.underlying26 rfl hs32a) rfl ?_
        rw [AD.out, AOK.out]
        exact ⟨rfl, ABB.out.trans ⟨rfl, rfl, rfl, by simp, fun i hi => setRow_other _ _ _ _ (by omega)⟩⟩
  · have hno : rdOk (tb s) = false := by unfold rdOk; rw [tb_length, decide_eq_false (by omega)]; rfl
    have hO : rdO (tb s) = List.replicate 32 0 := by unfold rdO; rw [hno]; rfl
    have hrd : ∀ j u, (bs (List.replicate 32 0))[j]? = some u → ((w.alloc (.cells z32 26)).alloc (.cells z32 26)).cell? ⟨w.heap.size + 1, 0 + j, none⟩ = some u := fun j u hj => by rw [blk_cell h21 (0 + j), Nat.zero_add]; unfold z32; rw [List.getElem?_toArray]; exact hj
    have hrow := setRow_heap _ w.heap.size z32 z32 _ _ h20
    have hbl : Below w.heap.size w (((w.alloc (.cells z32 26)).alloc (.cells z32 26)).setRow w.heap.size z32) := hb2.trans ⟨rfl, rfl, rfl, by simp, fun i hi => setRow_other _ _ _ _ (by omega)⟩
    have AR := Aside0.mk hrow
    have AB := Aside0.mk hbl
    have hsl : (Try.prog.info? 26).map (·.size) = some (bs (List.replicate 32 0)).length := size32
    have A20 := Aside0.mk h20
    have A21 := Aside0.mk h21
    have ARD := Aside0.mk hrd
    have ANO := Aside0.mk hno
    have AO := Aside0.mk hO
    clear hrow hbl h20 h21 hrd hb2 hno hO
    go_enter Try.func23, Try.ntmps23
    go_wp2_with (first | (refine wpList_load_at 26 (.tmp 4) (w.heap.size + 1) 0 (bs (List.replicate 32 0)) _ ARD.out Try.underlying26 rfl hsl rfl rfl rfl ?_; generalize hz : (bs (List.replicate 32 0)).toArray = ZZ) | (refine wpList_store_row rfl 26 (.tmp 2) (.tmp 11) rfl w.heap.size ZZ rfl rfl 26 _ A20.out (hz ▸ hsz) (hz ▸ rfl) (hz ▸ hz1) ?_))
    refine bodyPost_ret (v := .tuple #[.agg z32, .bool false]) (results_cell_row_tmp (p := 2) (u := 3) (ty := 26) rfl _ _ w.heap.size 26 z32 (0, 0) _ rfl (hz ▸ AR.out) Try.underlying26 rfl hsz) rfl ?_
    rw [AO.out, ANO.out]
    exact ⟨rfl, hz ▸ AB.out⟩

end Go.Proofs.Ythhandkckbnafaa
