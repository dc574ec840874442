/-
  The walks of the document's Print and Read: they answer as the given program's.
-/
import Derived.Test.YthhandkckbnafaaShaRead
import Derived.Test.YthhandkckbnafaaZAx
set_option linter.unusedVariables false
set_option linter.unusedSimpArgs false
namespace Go.Proofs.Ythhandkckbnafaa
open Go.RowKit Go.Proofs.YthhandkckbnafaaZ.ZA Go.Proofs.YthhandkckbnafaaW.PrintWords Go.Proofs.YthhandkckbnafaaW.PrintLast Go.Proofs.YthhandkckbnafaaW.PrintMore
theorem wrap64_id (z : Int) (h0 : -1000000000 ≤ z) (h1 : z ≤ 1000000000) : wrap64 z = z := by unfold wrap64; omega
theorem u8_id (z : Int) (h0 : 0 ≤ z) (h1 : z < 256) : IntKind.u8.wrap z = z := by
  have e : ∀ z : Int, IntKind.u8.wrap z = z % 256 := fun z => by simp [IntKind.wrap, IntKind.bits, IntKind.signed]
  rw [e]; omega
theorem st_app (xs ys : List UInt8) : st xs ++ st ys = st (xs ++ ys) := by
  apply ByteArray.ext
  rw [ByteArray.data_append]
  simp [st]
theorem lit2b_below (w : World) (x y : UInt8) : Below w.heap.size w (w.alloc (.cells #[.int .u8 (x.toNat : Int), .int .u8 (y.toNat : Int)] 5)) := (Below.refl _ _).alloc (Nat.le_refl _) _
theorem cell_below {w w' : World} {a : Addr} {v : Value} (h : w.cell? a = some v) (hb : Below w.heap.size w w') : w'.cell? a = some v := (hb.cell (World.block_lt_of_cell? w a h)).trans h
theorem below_size3 {w w1 w2 : World} (h : Below w.heap.size w w1) (k : Below w1.heap.size w1 w2) : Below w.heap.size w w2 := Go.Proofs.Ythhandkckbnafaa.below_size h k
set_option maxHeartbeats 2000000 in
set_option maxRecDepth 100000 in
theorem refPrint_calls (D : List UInt8) (hD : D.length = 32) (w : World) :
    Calls Try.prog 25 #[.agg (bs D).toArray] w fun e w' => e = .returned (.string (st (hexs D))) ∧ Below w.heap.size w w' := by
  have hcell : ∀ k, k < 32 → (w.alloc (.cells (bs D).toArray 26)).cell? ⟨w.heap.size, k, none⟩ = some (.int .u8 ((D.getD k 0).toNat : Int)) := fun k hk => by
    rw [blk_cell (heap_alloc_new w _) k, List.getElem?_toArray]
    unfold bs; rw [List.getElem?_map, List.getD, List.getElem?_eq_getElem (by omega : k < D.length)]; rfl
  have hbl := (Below.refl w.heap.size w).alloc (Nat.le_refl _) (.cells (bs D).toArray 26)
  have AC := Aside0.mk hcell
  clear hcell
  generalize hDV : bs D = DV at AC hbl ⊢
  clear hDV
  go_enter Try.func25, Try.ntmps25
  go_wp2_with fail
  have hlt0 : w.heap.size < (w.alloc (.cells DV.toArray 26)).heap.size := by simp
  go_loopw [3, 4] (fun v i wr => ∃ k : Nat, k ≤ 32 ∧ i = .int .i64 (k : Int) ∧ v = .string (st (hexs (D.take k))) ∧ Below w.heap.size w wr ∧ ∀ k, k < 32 → wr.cell? ⟨w.heap.size, k, none⟩ = some (.int .u8 ((D.getD k 0).toNat : Int))) (fun _ i _ => 32 - (intOf i).toNat)
  case atStart => exact ⟨0, Nat.zero_le _, rfl, rfl, hbl, AC.out⟩
  case round =>
    obtain ⟨k, hk, rfl, rfl, hB, hall⟩ := hrel
    clear hbl hlt0
    by_cases hlt : k < 32
    · obtain ⟨b, hb⟩ : ∃ b, (D.getD k 0).toNat = b := ⟨_, rfl⟩
      have hbl : b < 256 := by rw [← hb]; exact (D.getD k 0).toNat_lt
      have hsucc : hexs (D.take (k + 1)) = hexs (D.take k) ++ [hexd (b / 16), hexd (b % 16)] := by
        unfold hexs
        rw [flat_succ hexB D k (by omega), ← hb, List.getD, List.getElem?_eq_getElem (by omega)]
        rfl
      have hsz : ¬ (9223372036854775807 < (st (hexs (D.take k))).size + (st [hexd (b / 16), hexd (b % 16)]).size) := by
        rw [st_size, st_size, hexs_length, List.length_take]; simp; omega
      have h12 := hall k hlt
      rw [hb] at h12
      have hx1 := index_hex (b / 16) (by omega)
      have hx2 := index_hex (b % 16) (by omega)
      rw [show ((b / 16 : Nat) : Int) = (b : Int) / 16 by omega] at hx1
      rw [show ((b % 16 : Nat) : Int) = (b : Int) % 16 by omega] at hx2
      have t1 : (b : Int).tdiv 16 = (b : Int) / 16 := Int.tdiv_eq_ediv_of_nonneg (by omega)
      have t2 : (b : Int).tmod 16 = (b : Int) % 16 := Int.tmod_eq_emod_of_nonneg (by omega)
      have k0 : (0 : Int) ≤ (k : Int) := by omega
      have k1 : (k : Int) < 32 := by omega
      have t3 : IntKind.u8.wrap ((b : Int) / 16) = (b : Int) / 16 := by simp [IntKind.wrap, IntKind.bits, IntKind.signed]; omega
      have t4 : IntKind.u8.wrap ((b : Int) % 16) = (b : Int) % 16 := by simp [IntKind.wrap, IntKind.bits, IntKind.signed]; omega
      generalize hexd (b / 16) = d1 at hx1 hsucc hsz
      generalize hexd (b % 16) = d2 at hx2 hsucc hsz
      have AS := Aside0.mk hsucc
      have AHB := Aside0.mk hb
      have AAL := Aside0.mk hall
      have AB := Aside0.mk hB
      clear hsucc hb hall hB
      generalize hexs (D.take k) = acc at AS hsz
      obtain ⟨T, hT⟩ : ∃ T, st acc = T := ⟨_, rfl⟩
      rw [hT] at hsz ⊢
      have AT := Aside0.mk hT
      clear hT
      have h12 : wr.drew.cell? ⟨w.heap.size, k, none⟩ = some (.int .u8 (b : Int)) := h12
      have B12 : Below w.heap.size w wr.drew := AB.out.drew
      have A12 : ∀ k, k < 32 → wr.drew.cell? ⟨w.heap.size, k, none⟩ = some (.int .u8 ((D.getD k 0).toNat : Int)) := AAL.out
      have AA12 := Aside0.mk A12
      clear A12
      go_wp2_with fail
      refine start_ (n := 15) (S := fun w' => w'.cell? ⟨w.heap.size, k, none⟩ = some (.int .u8 (b : Int))) (ds := []) #[false, false, false, false, false, false, false, false, false, false, false, false, false, false, false] (by kernel_rfl) rfl rfl (h12) (fun hHeld => ?_)
      generalize wr.drew = w12 at h12 B12 AA12 hHeld ⊢
      refine pure_ (i := 0) (N := some 9) (v := ?_) (a' := ?_) #[true, false, false, false, false, false, false, false, false, false, false, false, false, false, false] rfl rfl (by kernel_rfl) (fun _ _ _ h => h) (Or.inl ⟨by rfl, ?_⟩) ?_ ?_
      rotate_left
      · intro w'
        go_simp
        with_reducible rfl
      rotate_left
      · simp only [Act.put, List.setIfInBounds_toArray, List.set_cons_zero, List.set_cons_succ, i64_w, i32_w]
        rfl
      refine pure_ (i := 1) (N := some 10) (v := ?_) (a' := ?_) #[true, true, false, false, false, false, false, false, false, false, false, false, false, false, false] rfl rfl (by kernel_rfl) (fun _ _ _ h => h) (Or.inl ⟨by rfl, ?_⟩) ?_ ?_
      rotate_left
      · intro w'
        go_simp
        with_reducible rfl
      rotate_left
      · simp only [Act.put, List.setIfInBounds_toArray, List.set_cons_zero, List.set_cons_succ, i64_w, i32_w]
        rfl
      refine pure_ (i := 2) (N := some 11) (v := ?_) (a' := ?_) #[true, true, true, false, false, false, false, false, false, false, false, false, false, false, false] rfl rfl (by kernel_rfl) (fun _ _ _ h => h) (Or.inl ⟨by rfl, ?_⟩) ?_ ?_
      rotate_left
      · intro w'
        go_simp
        with_reducible rfl
      rotate_left
      · simp only [Act.put, List.setIfInBounds_toArray, List.set_cons_zero, List.set_cons_succ, i64_w, i32_w]
        rfl
      refine pure_ (i := 6) (N := some 15) (v := ?_) (a' := ?_) #[true, true, true, false, false, false, true, false, false, false, false, false, false, false, false] rfl rfl (by kernel_rfl) (fun _ _ _ h => h) (Or.inl ⟨by rfl, ?_⟩) ?_ ?_
      rotate_left
      · intro w'
        go_simp
        with_reducible rfl
      rotate_left
      · simp only [Act.put, List.setIfInBounds_toArray, List.set_cons_zero, List.set_cons_succ, i64_w, i32_w]
        rfl
      refine pure_ (i := 7) (N := some 16) (v := ?_) (a' := ?_) #[true, true, true, false, false, false, true, true, false, false, false, false, false, false, false] rfl rfl (by kernel_rfl) (fun _ _ _ h => h) (Or.inl ⟨by rfl, ?_⟩) ?_ ?_
      rotate_left
      · intro w'
        go_simp
        with_reducible rfl
      rotate_left
      · simp only [Act.put, List.setIfInBounds_toArray, List.set_cons_zero, List.set_cons_succ, i64_w, i32_w]
        rfl
      refine take_ (i := 3) (N := some 12) (v := ?_) (a' := ?_) #[true, true, true, true, false, false, true, true, false, false, false, false, false, false, false] rfl rfl (by kernel_rfl) (fun _ _ _ h => h) (Or.inl ⟨by rfl, ?_⟩) hHeld ?_ ?_
      rotate_left
      · intro w' s0
        go_simp
        with_reducible rfl
      rotate_left
      · simp only [Act.put, List.setIfInBounds_toArray, List.set_cons_zero, List.set_cons_succ, i64_w, i32_w]
        rfl
      refine pure_ (i := 4) (N := some 13) (v := ?_) (a' := ?_) #[true, true, true, true, true, false, true, true, false, false, false, false, false, false, false] rfl rfl (by kernel_rfl) (fun _ _ _ h => h) (Or.inl ⟨by rfl, ?_⟩) ?_ ?_
      rotate_left
      · intro w'
        go_simp
        with_reducible rfl
      rotate_left
      · simp only [Act.put, List.setIfInBounds_toArray, List.set_cons_zero, List.set_cons_succ, i64_w, i32_w]
        rfl
      refine take_ (i := 5) (N := some 14) (v := ?_) (a' := ?_) #[true, true, true, true, true, true, true, true, false, false, false, false, false, false, false] rfl rfl (by kernel_rfl) (fun _ _ _ h => h) (Or.inl ⟨by rfl, ?_⟩) hHeld ?_ ?_
      rotate_left
      · intro w' s0
        go_simp
        with_reducible rfl
      rotate_left
      · simp only [Act.put, List.setIfInBounds_toArray, List.set_cons_zero, List.set_cons_succ, i64_w, i32_w]
        rfl
      refine take_ (i := 8) (N := some 17) (v := ?_) (a' := ?_) #[true, true, true, true, true, true, true, true, true, false, false, false, false, false, false] rfl rfl (by kernel_rfl) (fun _ _ _ h => h) (Or.inl ⟨by rfl, ?_⟩) hHeld ?_ ?_
      rotate_left
      · intro w' s0
        go_simp
        with_reducible rfl
      rotate_left
      · simp only [Act.put, List.setIfInBounds_toArray, List.set_cons_zero, List.set_cons_succ, i64_w, i32_w]
        rfl
      refine pure_ (i := 9) (N := some 18) (v := ?_) (a' := ?_) #[true, true, true, true, true, true, true, true, true, true, false, false, false, false, false] rfl rfl (by kernel_rfl) (fun _ _ _ h => h) (Or.inl ⟨by rfl, ?_⟩) ?_ ?_
      rotate_left
      · intro w'
        go_simp
        with_reducible rfl
      rotate_left
      · simp only [Act.put, List.setIfInBounds_toArray, List.set_cons_zero, List.set_cons_succ, i64_w, i32_w]
        rfl
      refine take_ (i := 10) (N := some 19) (v := ?_) (a' := ?_) #[true, true, true, true, true, true, true, true, true, true, true, false, false, false, false] rfl rfl (by kernel_rfl) (fun _ _ _ h => h) (Or.inl ⟨by rfl, ?_⟩) hHeld ?_ ?_
      rotate_left
      · intro w' s0
        go_simp
        with_reducible rfl
      rotate_left
      · simp only [Act.put, List.setIfInBounds_toArray, List.set_cons_zero, List.set_cons_succ, i64_w, i32_w]
        rfl
      refine one_ (i := 11) (N := some 20) #[true, true, true, true, true, true, true, true, true, true, true, true, false, false, false] rfl rfl (by kernel_rfl) (by decide) (fun K hK => ?_)
      refine value_ (w1 := ?_) (v := ?_) (by rfl) rfl ?_ ?_
      rotate_left 2
      · go_simp
        constructor
        · rfl
        · rfl
      have L13 := lit2b w12 d1 d2
      have hcv := conv_rv (P := Try.prog) 28 5 9 Try.underlying28 Try.underlying5 Try.underlying9 L13
      have c13 := cell_below h12 (lit2b_below w12 d1 d2)
      have B13 := below_size3 B12 (lit2b_below w12 d1 d2)
      have AA13 := fun j (hj : j < 32) => cell_below (AA12.out j hj) (lit2b_below w12 d1 d2)
      generalize World.alloc w12 _ = w13 at hcv c13 B13 AA13 ⊢
      refine hK.out _ _ (c13) (fun hHeld => ?_)
      clear hK K
      refine norm_ (a' := ?_) ?_ ?_
      rotate_left
      · show Act.put _ (some 20) _ = _
        simp only [Act.put, List.setIfInBounds_toArray, List.set_cons_zero, List.set_cons_succ, i64_w, i32_w]
        rfl
      refine one_ (i := 12) (N := some 21) #[true, true, true, true, true, true, true, true, true, true, true, true, true, false, false] rfl rfl (by kernel_rfl) (by decide) (fun K hK => ?_)
      refine value_ (w1 := ?_) (v := ?_) (by rfl) rfl ?_ ?_
      rotate_left 2
      · go_simp
        constructor
        · rfl
        · rfl
      refine hK.out _ _ (c13) (fun hHeld => ?_)
      clear hK K
      refine norm_ (a' := ?_) ?_ ?_
      rotate_left
      · show Act.put _ (some 21) _ = _
        simp only [Act.put, List.setIfInBounds_toArray, List.set_cons_zero, List.set_cons_succ, i64_w, i32_w]
        rfl
      refine pure_ (i := 13) (N := some 22) (v := ?_) (a' := ?_) #[true, true, true, true, true, true, true, true, true, true, true, true, true, true, false] rfl rfl (by kernel_rfl) (fun _ _ _ h => h) (Or.inl ⟨by rfl, ?_⟩) ?_ ?_
      rotate_left
      · intro w'
        go_simp
        with_reducible rfl
      rotate_left
      · simp only [Act.put, List.setIfInBounds_toArray, List.set_cons_zero, List.set_cons_succ, i64_w, i32_w]
        rfl
      refine pure_ (i := 14) (N := some 3) (v := ?_) (a' := ?_) #[true, true, true, true, true, true, true, true, true, true, true, true, true, true, true] rfl rfl (by kernel_rfl) (fun _ _ _ h => h) (Or.inl ⟨by rfl, ?_⟩) ?_ ?_
      rotate_left
      · intro w'
        go_simp
        with_reducible rfl
      rotate_left
      · simp only [Act.put, List.setIfInBounds_toArray, List.set_cons_zero, List.set_cons_succ, i64_w, i32_w]
        rfl
      refine done_ (by kernel_rfl) ?_
      clear hcv L13 c13 h12 B12
      have A13 := Aside0.mk AA13
      clear AA13
      go_wp2_with fail
      go_roundw
      case rel => exact ⟨k + 1, by omega, by go_num, by rw [AS.out, ← st_app, AT.out], B13, A13.out⟩
      case measure => simp [intOf]; omega
    · have hk32 : k = 32 := by omega
      subst hk32
      rw [List.take_of_length_le (by omega)]
      obtain ⟨T, hT⟩ : ∃ T, st (hexs D) = T := ⟨_, rfl⟩
      rw [hT]
      have AT := Aside0.mk hT
      clear hT
      go_wp2_with fail
      go_ret
      rw [AT.out]
      exact ⟨rfl, hB⟩
theorem half_all : ((List.range 256).all fun m => incipitref01_half.f 10 ((m : Nat) : Int) == some (if isD (UInt8.ofNat m) then dg (UInt8.ofNat m) else 16)) = true := by kernel_rfl
theorem half_f (c : UInt8) : incipitref01_half.f 10 ((c.toNat : Nat) : Int) = some (if isD c then dg c else 16) := by
  have h := eq_of_beq (List.all_eq_true.1 half_all c.toNat (List.mem_range.2 c.toNat_lt))
  rwa [UInt8.ofNat_toNat] at h
theorem half_calls (c : UInt8) (w : World) : Calls Try.prog 35 #[.int .u8 ((c.toNat : Nat) : Int)] w fun e w' => e = .returned (.int .i64 (if isD c then dg c else 16)) ∧ Below w.heap.size w w' :=
  (incipitref01_half.calls 10 _ _ w (half_f c)).mono fun e w' h => ⟨h.1, h.2.below⟩

end Go.Proofs.Ythhandkckbnafaa
