/-
  ShaDigits: the walk of the law: how any sum is written, and which sum any text is, are the document's.
-/
import Derived.Test.YthhandkckbnafaaShaBackH
import Derived.Test.YthhandkckbnafaaShaRefRd
set_option linter.unusedVariables false
set_option linter.unusedSimpArgs false
namespace Go.Proofs.Ythhandkckbnafaa
open Go.RowKit Go.Proofs.YthhandkckbnafaaZ.ZA Go.Proofs.YthhandkckbnafaaW.PrintWords Go.Proofs.YthhandkckbnafaaW.PrintLast Go.Proofs.YthhandkckbnafaaW.PrintMore
set_option maxHeartbeats 4000000 in
set_option maxRecDepth 100000 in
theorem shaDigits_walk (D : List UInt8) (t : ByteArray) (w : World) (hD : D.length = 32) (_ : t.size ≤ maxLen) :
    Calls Try.prog 5 #[.agg (bs D).toArray, .string t] w fun e w' => e = .returned (.bool true) ∧ Below w.heap.size w w' := by
  have H2 := At32.new w (bs D) (by rw [bs_length, hD])
  have HB : Below w.heap.size w (w.alloc (.cells (bs D).toArray 26)) := (Below.refl _ _).alloc (Nat.le_refl _) _
  obtain ⟨TD, hTD⟩ : ∃ T, st (hexs D) = T := ⟨_, rfl⟩
  obtain ⟨ok, hok⟩ : ∃ b, rdOk (tb t) = b := ⟨_, rfl⟩
  have PD : ∀ W : World, Calls Try.prog 24 #[.agg (bs D).toArray] W fun e w' => e = .returned (.string TD) ∧ Below W.heap.size W w' := fun W => by rw [← hTD]; exact print_calls D hD W
  have PQ : ∀ W : World, Calls Try.prog 25 #[.agg (bs D).toArray] W fun e w' => e = .returned (.string TD) ∧ Below W.heap.size W w' := fun W => by rw [← hTD]; exact refPrint_calls D hD W
  have R1 : ∀ W : World, Calls Try.prog 22 #[.string t] W fun e w' => e = .returned (.tuple #[.agg (bs (rdO (tb t))).toArray, .bool ok]) ∧ Below W.heap.size W w' := fun W => by rw [← hok]; exact read_calls t W
  have R2 : ∀ W : World, Calls Try.prog 23 #[.string t] W fun e w' => e = .returned (.tuple #[.agg (bs (rdO (tb t))).toArray, .bool ok]) ∧ Below W.heap.size W w' := fun W => by rw [← hok]; exact refRead_calls t W
  have eXX := fun w => arr_eq 9998 (rdO (tb t)) (rdO (tb t)) (rdO_length _) (rdO_length _) w
  rw [beq_self_eq_true] at eXX
  have hXl : (bs (rdO (tb t))).length = 32 := by rw [bs_length, rdO_length]
  have hXo := bs_one (rdO (tb t))
  have hg := guard32
  generalize bs D = BD at H2 HB PD PQ ⊢
  generalize bs (rdO (tb t)) = BX at R1 R2 eXX hXl hXo
  have A2 := Aside0.mk H2
  have AB := Aside0.mk HB
  have BP := Aside0.mk PD
  have BQ := Aside0.mk PQ
  have BR := Aside0.mk R1
  have BS := Aside0.mk R2
  have AXl := Aside0.mk hXl
  have AXo := Aside0.mk hXo
  have AXs := Aside0.mk (p := (Try.prog.info? 26).map (·.size) = some BX.length) (by rw [hXl]; exact size32)
  clear H2 HB PD PQ R1 R2 hXl hXo hTD hok hD
  go_enter Try.func5, Try.ntmps5
  by_cases hlen : (1000 : Int) < (t.size : Int)
  · go_wp2_with (go_at_call 11; refine (awake_calls _).mono ?_; rintro e w1 ⟨rfl, hb1⟩)
    go_ret
    exact ⟨rfl, below_size2 AB.out hb1⟩
  · go_wp2_with (first
      | (go_at_call 22; with_reducible refine (BR.out _).mono ?_; rintro e w1 ⟨rfl, hb1⟩)
      | (go_at_call 23; with_reducible refine (BS.out _).mono ?_; rintro e w2 ⟨rfl, hb2⟩)
      | (refine wpList_store_new 26 (.tmp 5) (.tmp 16) _ BX AXs.out (AXl.out.symm ▸ by rfl) AXo.out rfl rfl rfl rfl ?_)
      | (refine wpList_store_new 26 (.tmp 7) (.tmp 21) _ BX AXs.out (AXl.out.symm ▸ by rfl) AXo.out rfl rfl rfl rfl ?_))
    have H5 := At32.new w1 BX AXl.out
    have H2 := (A2.out.below hb1).alloc (.cells BX.toArray 26)
    have c1 := below_size2 AB.out hb1
    have c2 := below_size2 (c1.alloc c1.size (.cells BX.toArray 26)) hb2
    have H7 := At32.new w2 BX AXl.out
    have H5 := (H5.below hb2).alloc (.cells BX.toArray 26)
    have H2 := (H2.below hb2).alloc (.cells BX.toArray 26)
    have HB := c2.alloc c2.size (.cells BX.toArray 26)
    clear hb1 hb2 c1 c2
    generalize World.alloc w2 _ = w4 at H2 H5 H7 HB ⊢
    obtain ⟨p2, hp2⟩ : ∃ x, w.heap.size = x := ⟨_, rfl⟩
    obtain ⟨p5, hp5⟩ : ∃ x, w1.heap.size = x := ⟨_, rfl⟩
    obtain ⟨p7, hp7⟩ : ∃ x, w2.heap.size = x := ⟨_, rfl⟩
    rw [hp2] at H2
    rw [hp5] at H5
    rw [hp7] at H7
    simp only [hp2, hp5, hp7]
    have A4b := Aside0.mk HB
    clear hp2 hp5 hp7 HB
    have H2 := H2.drew
    have H5 := H5.drew
    have H7 := H7.drew
    have HB : Below w.heap.size w w4.drew := A4b.out.drew
    refine start_ (n := 19) (S := fun w' => Sem.run Try.prog (Instr.loadAt 26 (.pointer (some ⟨p2, 0, none⟩))) w' = .ok (.agg BD.toArray) w' ∧ Sem.run Try.prog (Instr.loadAt 26 (.pointer (some ⟨p5, 0, none⟩))) w' = .ok (.agg BX.toArray) w' ∧ Sem.run Try.prog (Instr.loadAt 26 (.pointer (some ⟨p7, 0, none⟩))) w' = .ok (.agg BX.toArray) w') (ds := []) #[false, false, false, false, false, false, false, false, false, false, false, false, false, false, false, false, false, false, false] (by kernel_rfl) rfl rfl ⟨(load32 H2), (load32 H5), (load32 H7)⟩ (fun hHeld => ?_)
    generalize w4.drew = w12 at H2 H5 H7 HB hHeld ⊢
    have BL := Below.refl w12.heap.size w12
    refine take_ (i := 0) (N := some 23) (v := .agg BD.toArray) (a' := ?_) #[true, false, false, false, false, false, false, false, false, false, false, false, false, false, false, false, false, false, false] rfl rfl (by kernel_rfl) (fun _ _ _ h => h) (Or.inl ⟨by rfl, ?_⟩) hHeld ?_ ?_
    · rintro w' ⟨s0, s1, s2⟩
      exact exec_load rfl rfl s0
    rotate_left
    · simp only [Act.put, List.setIfInBounds_toArray, List.set_cons_zero, List.set_cons_succ, i64_w, i32_w]
      rfl
    refine take_ (i := 2) (N := some 25) (v := .agg BD.toArray) (a' := ?_) #[true, false, true, false, false, false, false, false, false, false, false, false, false, false, false, false, false, false, false] rfl rfl (by kernel_rfl) (fun _ _ _ h => h) (Or.inl ⟨by rfl, ?_⟩) hHeld ?_ ?_
    · rintro w' ⟨s0, s1, s2⟩
      exact exec_load rfl rfl s0
    rotate_left
    · simp only [Act.put, List.setIfInBounds_toArray, List.set_cons_zero, List.set_cons_succ, i64_w, i32_w]
      rfl
    refine one_ (i := 1) (N := some 24) #[true, true, true, false, false, false, false, false, false, false, false, false, false, false, false, false, false, false, false] rfl rfl (by kernel_rfl) (by decide) (fun K hK => ?_)
    refine goes_ Try.func24 (by kernel_rfl) rfl #[.agg BD.toArray] (by rfl) rfl rfl (by simp only [List.map_toArray, List.map_cons, List.map_nil]; rfl) ?_
    with_reducible refine (BP.out w12).mono ?_
    rintro e w12b ⟨rfl, hdb⟩
    refine ⟨_, rfl, ?_⟩
    have H2b := H2.below hdb
    have H5b := H5.below hdb
    have H7b := H7.below hdb
    have BLb := Below.trans BL (hdb.mono BL.size)
    refine hK.out _ _ ⟨(load32 H2b), (load32 H5b), (load32 H7b)⟩ (fun hHeld => ?_)
    clear hK K
    refine norm_ (a' := ?_) ?_ ?_
    rotate_left
    · show Act.put _ (some 24) _ = _
      simp only [Act.put, List.setIfInBounds_toArray, List.set_cons_zero, List.set_cons_succ, i64_w, i32_w]
      rfl
    refine one_ (i := 3) (N := some 26) #[true, true, true, true, false, false, false, false, false, false, false, false, false, false, false, false, false, false, false] rfl rfl (by kernel_rfl) (by decide) (fun K hK => ?_)
    refine goes_ Try.func25 (by kernel_rfl) rfl #[.agg BD.toArray] (by rfl) rfl rfl (by simp only [List.map_toArray, List.map_cons, List.map_nil]; rfl) ?_
    with_reducible refine (BQ.out w12b).mono ?_
    rintro e w13 ⟨rfl, hdc⟩
    refine ⟨_, rfl, ?_⟩
    have H2c := H2b.below hdc
    have H5c := H5b.below hdc
    have H7c := H7b.below hdc
    have BLc := Below.trans BLb (hdc.mono BLb.size)
    refine hK.out _ _ ⟨(load32 H2c), (load32 H5c), (load32 H7c)⟩ (fun hHeld => ?_)
    clear hK K
    refine norm_ (a' := ?_) ?_ ?_
    rotate_left
    · show Act.put _ (some 26) _ = _
      simp only [Act.put, List.setIfInBounds_toArray, List.set_cons_zero, List.set_cons_succ, i64_w, i32_w]
      rfl
    refine pure_ (i := 4) (N := some 27) (v := ?_) (a' := ?_) #[true, true, true, true, true, false, false, false, false, false, false, false, false, false, false, false, false, false, false] rfl rfl (by kernel_rfl) (fun _ _ _ h => h) (Or.inl ⟨by rfl, ?_⟩) ?_ ?_
    rotate_left
    · intro w'
      go_simp
      with_reducible rfl
    rotate_left
    · simp only [Act.put, List.setIfInBounds_toArray, List.set_cons_zero, List.set_cons_succ, i64_w, i32_w]
      rfl
    refine pure_ (i := 5) (N := some 28) (v := ?_) (a' := ?_) #[true, true, true, true, true, true, false, false, false, false, false, false, false, false, false, false, false, false, false] rfl rfl (by kernel_rfl) (fun _ _ _ h => h) (Or.inl ⟨by rfl, ?_⟩) ?_ ?_
    rotate_left
    · intro w'
      go_simp
      with_reducible rfl
    rotate_left
    · simp only [Act.put, List.setIfInBounds_toArray, List.set_cons_zero, List.set_cons_succ, i64_w, i32_w]
      rfl
    refine take_ (i := 6) (N := some 29) (v := .agg BX.toArray) (a' := ?_) #[true, true, true, true, true, true, true, false, false, false, false, false, false, false, false, false, false, false, false] rfl rfl (by kernel_rfl) (fun _ _ _ h => h) (Or.inl ⟨by rfl, ?_⟩) hHeld ?_ ?_
    · rintro w' ⟨s0, s1, s2⟩
      exact exec_load rfl rfl s1
    rotate_left
    · simp only [Act.put, List.setIfInBounds_toArray, List.set_cons_zero, List.set_cons_succ, i64_w, i32_w]
      rfl
    refine take_ (i := 7) (N := some 30) (v := .agg BX.toArray) (a' := ?_) #[true, true, true, true, true, true, true, true, false, false, false, false, false, false, false, false, false, false, false] rfl rfl (by kernel_rfl) (fun _ _ _ h => h) (Or.inl ⟨by rfl, ?_⟩) hHeld ?_ ?_
    · rintro w' ⟨s0, s1, s2⟩
      exact exec_load rfl rfl s2
    rotate_left
    · simp only [Act.put, List.setIfInBounds_toArray, List.set_cons_zero, List.set_cons_succ, i64_w, i32_w]
      rfl
    refine pure_ (i := 8) (N := some 31) (v := ?_) (a' := ?_) #[true, true, true, true, true, true, true, true, true, false, false, false, false, false, false, false, false, false, false] rfl rfl (by kernel_rfl) (fun _ _ _ h => h) (Or.inl ⟨by rfl, ?_⟩) ?_ ?_
    rotate_left
    · intro w'
      go_simp
      with_reducible rfl
    rotate_left
    · simp only [Act.put, List.setIfInBounds_toArray, List.set_cons_zero, List.set_cons_succ, i64_w, i32_w]
      rfl
    refine pure_ (i := 9) (N := some 32) (v := ?_) (a' := ?_) #[true, true, true, true, true, true, true, true, true, true, false, false, false, false, false, false, false, false, false] rfl rfl (by kernel_rfl) (fun _ _ _ h => h) (Or.inl ⟨by rfl, ?_⟩) ?_ ?_
    rotate_left
    · intro w'
      go_simp
      with_reducible rfl
    rotate_left
    · simp only [Act.put, List.setIfInBounds_toArray, List.set_cons_zero, List.set_cons_succ, i64_w, i32_w]
      rfl
    refine pure_ (i := 10) (N := some 33) (v := ?_) (a' := ?_) #[true, true, true, true, true, true, true, true, true, true, true, false, false, false, false, false, false, false, false] rfl rfl (by kernel_rfl) (fun _ _ _ h => h) (Or.inl ⟨by rfl, ?_⟩) ?_ ?_
    rotate_left
    · intro w'
      go_simp
      with_reducible rfl
    rotate_left
    · simp only [Act.put, List.setIfInBounds_toArray, List.set_cons_zero, List.set_cons_succ, i64_w, i32_w]
      rfl
    refine pure_ (i := 11) (N := some 34) (v := ?_) (a' := ?_) #[true, true, true, true, true, true, true, true, true, true, true, true, false, false, false, false, false, false, false] rfl rfl (by kernel_rfl) (fun _ _ _ h => h) (Or.inl ⟨by rfl, ?_⟩) ?_ ?_
    rotate_left
    · intro w'
      go_simp
      with_reducible rfl
    rotate_left
    · simp only [Act.put, List.setIfInBounds_toArray, List.set_cons_zero, List.set_cons_succ, i64_w, i32_w]
      rfl
    refine pure_ (i := 12) (N := some 35) (v := ?_) (a' := ?_) #[true, true, true, true, true, true, true, true, true, true, true, true, true, false, false, false, false, false, false] rfl rfl (by kernel_rfl) (fun _ _ _ h => h) (Or.inl ⟨by rfl, ?_⟩) ?_ ?_
    rotate_left
    · intro w'
      go_simp
      with_reducible rfl
    rotate_left
    · simp only [Act.put, List.setIfInBounds_toArray, List.set_cons_zero, List.set_cons_succ, i64_w, i32_w]
      rfl
    refine pure_ (i := 13) (N := some 36) (v := ?_) (a' := ?_) #[true, true, true, true, true, true, true, true, true, true, true, true, true, true, false, false, false, false, false] rfl rfl (by kernel_rfl) (fun _ _ _ h => h) (Or.inl ⟨by rfl, ?_⟩) ?_ ?_
    rotate_left
    · intro w'
      go_simp
      with_reducible rfl
    rotate_left
    · simp only [Act.put, List.setIfInBounds_toArray, List.set_cons_zero, List.set_cons_succ, i64_w, i32_w]
      rfl
    refine pure_ (i := 14) (N := some 37) (v := ?_) (a' := ?_) #[true, true, true, true, true, true, true, true, true, true, true, true, true, true, true, false, false, false, false] rfl rfl (by kernel_rfl) (fun _ _ _ h => h) (Or.inl ⟨by rfl, ?_⟩) ?_ ?_
    rotate_left
    · intro w'
      go_simp
      with_reducible rfl
    rotate_left
    · simp only [Act.put, List.setIfInBounds_toArray, List.set_cons_zero, List.set_cons_succ, i64_w, i32_w]
      rfl
    refine pure_ (i := 15) (N := some 38) (v := ?_) (a' := ?_) #[true, true, true, true, true, true, true, true, true, true, true, true, true, true, true, true, false, false, false] rfl rfl (by kernel_rfl) (fun _ _ _ h => h) (Or.inl ⟨by rfl, ?_⟩) ?_ ?_
    rotate_left
    · intro w'
      go_simp
      with_reducible rfl
    rotate_left
    · simp only [Act.put, List.setIfInBounds_toArray, List.set_cons_zero, List.set_cons_succ, i64_w, i32_w]
      rfl
    refine one_ (i := 16) (N := some 39) #[true, true, true, true, true, true, true, true, true, true, true, true, true, true, true, true, true, false, false] rfl rfl (by kernel_rfl) (by decide) (fun K hK => ?_)
    refine goes_ Try.func11 (by kernel_rfl) rfl #[] (by rfl) rfl rfl (by simp) ?_
    with_reducible refine (awake_calls w13).mono ?_
    rintro e w14 ⟨rfl, hd14⟩
    refine ⟨_, rfl, ?_⟩
    have H2d := H2c.below hd14
    have H5d := H5c.below hd14
    have H7d := H7c.below hd14
    refine hK.out _ _ ⟨(load32 H2d), (load32 H5d), (load32 H7d)⟩ (fun hHeld => ?_)
    clear hK K
    refine norm_ (a' := ?_) ?_ ?_
    rotate_left
    · show Act.put _ (some 39) _ = _
      simp only [Act.put, List.setIfInBounds_toArray, List.set_cons_zero, List.set_cons_succ, i64_w, i32_w]
      rfl
    refine pure_ (i := 17) (N := some 40) (v := ?_) (a' := ?_) #[true, true, true, true, true, true, true, true, true, true, true, true, true, true, true, true, true, true, false] rfl rfl (by kernel_rfl) (fun _ _ _ h => h) (Or.inl ⟨by rfl, ?_⟩) ?_ ?_
    rotate_left
    · intro w'
      go_simp
      with_reducible rfl
    rotate_left
    · simp only [Act.put, List.setIfInBounds_toArray, List.set_cons_zero, List.set_cons_succ, i64_w, i32_w]
      rfl
    refine pure_ (i := 18) (N := some 4) (v := ?_) (a' := ?_) #[true, true, true, true, true, true, true, true, true, true, true, true, true, true, true, true, true, true, true] rfl rfl (by kernel_rfl) (fun _ _ _ h => h) (Or.inl ⟨by rfl, ?_⟩) ?_ ?_
    rotate_left
    · intro w'
      go_simp
      with_reducible rfl
    rotate_left
    · simp only [Act.put, List.setIfInBounds_toArray, List.set_cons_zero, List.set_cons_succ, i64_w, i32_w]
      rfl
    refine done_ (by kernel_rfl) ?_
    go_wp2_with fail
    go_ret
    exact ⟨rfl, below_size2 (below_size2 HB BLc) hd14⟩

end Go.Proofs.Ythhandkckbnafaa
