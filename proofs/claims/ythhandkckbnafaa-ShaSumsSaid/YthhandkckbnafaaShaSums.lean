/-
  ShaSums: the walk of the law: the sum of any parts is the document's; they stay.
-/
import Derived.Test.YthhandkckbnafaaShaNobody
set_option linter.unusedVariables false
set_option linter.unusedSimpArgs false
namespace Go.Proofs.Ythhandkckbnafaa
open Go.RowKit Go.Proofs.YthhandkckbnafaaZ.ZA Go.Proofs.YthhandkckbnafaaW.PrintWords Go.Proofs.YthhandkckbnafaaW.PrintLast Go.Proofs.YthhandkckbnafaaW.PrintMore
theorem conv5 {w : World} {A : Option Addr} {c n : Nat} {F : List UInt8} (h : RV w (.slice A n c) n 1 (bs F)) : Sem.run Try.prog (convert 28 9 (.slice A n c)) w = .ok (.string (st F)) w := conv_rv 28 5 9 Try.underlying28 Try.underlying5 Try.underlying9 h
set_option maxHeartbeats 2000000 in
set_option maxRecDepth 100000 in
theorem shaSums_walk (lv : Value) (l : List (List UInt8)) (w : World) (hlv : RBs w lv l) (_ : l.length ≤ 140737488355328) :
    Calls Try.prog 3 #[lv] w fun e w' => e = .returned (.bool true) ∧ Below w.heap.size w w' := by
  obtain ⟨F, hF⟩ : ∃ F, l.flatten = F := ⟨_, rfl⟩
  have hDl : (digest F).length = 32 := digest_length _
  have eDD := fun w => arr_eq 9998 (digest F) (digest F) hDl hDl w
  rw [beq_self_eq_true] at eDD
  have hg := guard32
  have hBl : (bs (digest F)).length = 32 := by rw [bs_length, hDl]
  have hBo := bs_one (digest F)
  obtain ⟨BD, hBD⟩ : ∃ B, bs (digest F) = B := ⟨_, rfl⟩
  rw [hBD] at eDD hBl hBo
  have hs1 : ∀ (W : World) (v : Value), RBs W v l → l.length ≤ 300 → l.flatten.length ≤ 20000 → Calls Try.prog 13 #[v] W fun e w' => e = .returned (.agg BD.toArray) ∧ Below W.heap.size W w' := fun W v hv h1 h2 => by
    have h := sum_calls v l W hv (by omega) (by omega)
    rw [hF, hBD] at h
    exact h
  have hs2 : ∀ (W : World) (A : Option Addr) (n c : Nat), RV W (.slice A n c) F.length 1 (bs F) → F.length ≤ 20000 → Calls Try.prog 15 #[.slice (some ⟨W.heap.size, 0, none⟩) 1 1] (W.alloc (.cells #[.slice A n c] 28)) fun e w' => e = .returned (.agg BD.toArray) ∧ Below (W.alloc (.cells #[.slice A n c] 28)).heap.size (W.alloc (.cells #[.slice A n c] 28)) w' := fun W A n c hr hl => by
    have h := refSum_digest _ [F] _ (rbs_one W (.slice A n c) F hr 28) (by simp; omega)
    rw [show ([F] : List (List UInt8)).flatten = F by simp, hBD] at h
    exact h
  have B1 := Aside0.mk hs1
  have B2 := Aside0.mk hs2
  have AL := Aside0.mk hlv
  have AF := Aside0.mk hF
  have ABl := Aside0.mk hBl
  have ABo := Aside0.mk hBo
  have ABs := Aside0.mk (p := (Try.prog.info? 26).map (·.size) = some BD.length) (by rw [hBl]; exact size32)
  clear hs1 hs2 hF hBl hBo hBD hDl
  go_enter Try.func3, Try.ntmps3
  go_wp2_with (first
    | (go_at_call 10; refine (much_calls lv l _ AL.out).mono ?_; rintro e w1 ⟨b, rfl, rfl, hmuch⟩; cases b; (have AMU := Aside0.mk (hmuch rfl); clear hmuch); rotate_left; clear hmuch)
    | (go_at_call 12; refine (copied_calls lv l _ AL.out AMU.out.1 AMU.out.2).mono ?_; rintro e w2 ⟨v2, rfl, hv2, hb2⟩; have AV2 := Aside0.mk hv2; clear hv2)
    | (go_at_call 13; refine (B1.out _ _ AV2.out AMU.out.1 AMU.out.2).mono ?_; rintro e w3 ⟨rfl, hb3⟩)
    | (refine wpList_store_new 26 (.tmp 4) (.tmp 12) _ BD ABs.out (ABl.out.symm ▸ by rfl) ABo.out rfl rfl rfl rfl ?_)
    | (go_at_call 14; refine (all_calls lv l _ ((((AL.out.below hb2).below hb3)).below ((Below.refl _ _).alloc (Nat.le_refl _) _)) (by have := AMU.out.2; omega)).mono ?_; rintro e w5 ⟨v5, rfl, ho5, hb5⟩; rw [AF.out] at ho5; have AO5 := Aside0.mk ho5; clear ho5)
    | (go_at_call 11; refine (awake_calls _).mono ?_; rintro e w8 ⟨rfl, hb8⟩))
  · go_ret
    exact ⟨rfl, hb8⟩
  obtain ⟨A5, c5, rfl⟩ := (RV_own AO5.out).slice
  have H4 := ((At32.new w3 BD ABl.out).below hb5).drew
  have R5 := (RV_own AO5.out).drew
  have bA := (Below.refl w3.heap.size w3).alloc (Nat.le_refl _) (.cells BD.toArray 26)
  have bB := bA.trans (hb5.mono bA.size)
  have V2 := ((AV2.out.below hb3).below bB).below (Below.refl _ _).drew
  have HB : Below w1.heap.size w1 w5.drew := (below_size2 (below_size2 (below_size2 hb2 hb3) bA) hb5).drew
  have hFl : F.length ≤ 20000 := by have := AMU.out.2; rw [AF.out] at this; exact this
  have hlb : l.flatten.length ≤ 140737488355328 := by have := AMU.out.2; omega
  have AHB := Aside0.mk HB
  obtain ⟨p4, hp4⟩ : ∃ x, w3.heap.size = x := ⟨_, rfl⟩
  rw [hp4] at H4
  simp only [hp4]
  clear hp4 HB bA bB hb2 hb3 hb5 AO5 AV2
  refine start_ (n := 17) (S := fun w' => Sem.run Try.prog (Instr.loadAt 26 (.pointer (some ⟨p4, 0, none⟩))) w' = .ok (.agg BD.toArray) w' ∧ Sem.run Try.prog (convert 28 9 (.slice A5 F.length c5)) w' = .ok (.string (st F)) w') (ds := []) #[false, false, false, false, false, false, false, false, false, false, false, false, false, false, false, false, false] (by kernel_rfl) rfl rfl ⟨(load32 H4), (conv5 R5)⟩ (fun hHeld => ?_)
  generalize w5.drew = w12 at H4 R5 V2 AHB hHeld ⊢
  have BL := Below.refl w12.heap.size w12
  refine pure_ (i := 1) (N := some 16) (v := ?_) (a' := ?_) #[false, true, false, false, false, false, false, false, false, false, false, false, false, false, false, false, false] rfl rfl (by kernel_rfl) (fun _ _ _ h => h) (Or.inl ⟨by rfl, ?_⟩) ?_ ?_
  rotate_left
  · intro w'
    go_simp
    with_reducible rfl
  rotate_left
  · simp only [Act.put, List.setIfInBounds_toArray, List.set_cons_zero, List.set_cons_succ, i64_w, i32_w]
    rfl
  refine take_ (i := 0) (N := some 15) (v := .agg BD.toArray) (a' := ?_) #[true, true, false, false, false, false, false, false, false, false, false, false, false, false, false, false, false] rfl rfl (by kernel_rfl) (fun _ _ _ h => h) (Or.inl ⟨by rfl, ?_⟩) hHeld ?_ ?_
  · rintro w' ⟨s0, s1⟩
    exact exec_load rfl rfl s0
  rotate_left
  · simp only [Act.put, List.setIfInBounds_toArray, List.set_cons_zero, List.set_cons_succ, i64_w, i32_w]
    rfl
  refine one_ (i := 2) (N := some 17) #[true, true, true, false, false, false, false, false, false, false, false, false, false, false, false, false, false] rfl rfl (by kernel_rfl) (by decide) (fun K hK => ?_)
  refine value_ (w1 := ?_) (v := ?_) (by rfl) rfl ?_ ?_
  rotate_left 2
  · go_simp
    constructor
    · rfl
    · rfl
  have hdA := (Below.refl w12.heap.size w12).alloc (Nat.le_refl _) (.cells #[.slice A5 F.length c5] 28)
  have H4a := H4.below hdA
  have R5a := RV.below R5 hdA
  have V2a := RBs.below V2 hdA
  have BLa := Below.trans BL (hdA.mono BL.size)
  have C13 := B2.out w12 A5 F.length c5 R5 hFl
  generalize World.alloc w12 (.cells #[.slice A5 F.length c5] 28) = w13 at H4a R5a V2a BLa C13 ⊢
  refine hK.out _ _ ⟨(load32 H4a), (conv5 R5a)⟩ (fun hHeld => ?_)
  clear hK K
  refine norm_ (a' := ?_) ?_ ?_
  rotate_left
  · show Act.put _ (some 17) _ = _
    simp only [Act.put, List.setIfInBounds_toArray, List.set_cons_zero, List.set_cons_succ, i64_w, i32_w]
    rfl
  refine one_ (i := 3) (N := some 18) #[true, true, true, true, false, false, false, false, false, false, false, false, false, false, false, false, false] rfl rfl (by kernel_rfl) (by decide) (fun K hK => ?_)
  refine goes_ Try.func15 (by kernel_rfl) rfl #[.slice (some ⟨w12.heap.size, 0, none⟩) 1 1] (by rfl) rfl rfl (by simp only [List.map_toArray, List.map_cons, List.map_nil]; rfl) ?_
  with_reducible refine (C13).mono ?_
  rintro e w14 ⟨rfl, hd14⟩
  refine ⟨_, rfl, ?_⟩
  have H4b := H4a.below hd14
  have R5b := RV.below R5a hd14
  have V2b := RBs.below V2a hd14
  have BLb := Below.trans BLa (hd14.mono BLa.size)
  refine hK.out _ _ ⟨(load32 H4b), (conv5 R5b)⟩ (fun hHeld => ?_)
  clear hK K
  refine norm_ (a' := ?_) ?_ ?_
  rotate_left
  · show Act.put _ (some 18) _ = _
    simp only [Act.put, List.setIfInBounds_toArray, List.set_cons_zero, List.set_cons_succ, i64_w, i32_w]
    rfl
  refine pure_ (i := 4) (N := some 19) (v := ?_) (a' := ?_) #[true, true, true, true, true, false, false, false, false, false, false, false, false, false, false, false, false] rfl rfl (by kernel_rfl) (fun _ _ _ h => h) (Or.inl ⟨by rfl, ?_⟩) ?_ ?_
  rotate_left
  · intro w'
    go_simp
    with_reducible rfl
  rotate_left
  · simp only [Act.put, List.setIfInBounds_toArray, List.set_cons_zero, List.set_cons_succ, i64_w, i32_w]
    rfl
  refine pure_ (i := 5) (N := some 20) (v := ?_) (a' := ?_) #[true, true, true, true, true, true, false, false, false, false, false, false, false, false, false, false, false] rfl rfl (by kernel_rfl) (fun _ _ _ h => h) (Or.inl ⟨by rfl, ?_⟩) ?_ ?_
  rotate_left
  · intro w'
    go_simp
    with_reducible rfl
  rotate_left
  · simp only [Act.put, List.setIfInBounds_toArray, List.set_cons_zero, List.set_cons_succ, i64_w, i32_w]
    rfl
  refine pure_ (i := 6) (N := some 21) (v := ?_) (a' := ?_) #[true, true, true, true, true, true, true, false, false, false, false, false, false, false, false, false, false] rfl rfl (by kernel_rfl) (fun _ _ _ h => h) (Or.inl ⟨by rfl, ?_⟩) ?_ ?_
  rotate_left
  · intro w'
    go_simp
    with_reducible rfl
  rotate_left
  · simp only [Act.put, List.setIfInBounds_toArray, List.set_cons_zero, List.set_cons_succ, i64_w, i32_w]
    rfl
  refine pure_ (i := 9) (N := some 24) (v := ?_) (a' := ?_) #[true, true, true, true, true, true, true, false, false, true, false, false, false, false, false, false, false] rfl rfl (by kernel_rfl) (fun _ _ _ h => h) (Or.inl ⟨by rfl, ?_⟩) ?_ ?_
  rotate_left
  · intro w'
    go_simp
    with_reducible rfl
  rotate_left
  · simp only [Act.put, List.setIfInBounds_toArray, List.set_cons_zero, List.set_cons_succ, i64_w, i32_w]
    rfl
  refine take_ (i := 10) (N := some 25) (v := ?_) (a' := ?_) #[true, true, true, true, true, true, true, false, false, true, true, false, false, false, false, false, false] rfl rfl (by kernel_rfl) (fun _ _ _ h => h) (Or.inl ⟨by rfl, ?_⟩) hHeld ?_ ?_
  rotate_left
  · rintro w' ⟨s0, s1⟩
    go_simp
    with_reducible rfl
  rotate_left
  · simp only [Act.put, List.setIfInBounds_toArray, List.set_cons_zero, List.set_cons_succ, i64_w, i32_w]
    rfl
  refine one_ (i := 7) (N := some 22) #[true, true, true, true, true, true, true, true, false, true, true, false, false, false, false, false, false] rfl rfl (by kernel_rfl) (by decide) (fun K hK => ?_)
  refine goes_ Try.func14 (by kernel_rfl) rfl #[v2] (by rfl) rfl rfl (by simp only [List.map_toArray, List.map_cons, List.map_nil]; rfl) ?_
  with_reducible refine (all_calls v2 l w14 V2b hlb).mono ?_
  rintro e w15 ⟨v15, rfl, ho15, hd15⟩
  refine ⟨_, rfl, ?_⟩
  have H4c := H4b.below hd15
  have R5c := RV.below R5b hd15
  have V2c := RBs.below V2b hd15
  have BLc := Below.trans BLb (hd15.mono BLb.size)
  rw [AF.out] at ho15
  obtain ⟨A15, c15, rfl⟩ := RV.slice (RV_own ho15)
  have hcv15 := conv5 (RV_own ho15)
  refine hK.out _ _ ⟨(load32 H4c), (conv5 R5c)⟩ (fun hHeld => ?_)
  clear hK K
  refine norm_ (a' := ?_) ?_ ?_
  rotate_left
  · show Act.put _ (some 22) _ = _
    simp only [Act.put, List.setIfInBounds_toArray, List.set_cons_zero, List.set_cons_succ, i64_w, i32_w]
    rfl
  refine one_ (i := 8) (N := some 23) #[true, true, true, true, true, true, true, true, true, true, true, false, false, false, false, false, false] rfl rfl (by kernel_rfl) (by decide) (fun K hK => ?_)
  refine value_ (w1 := ?_) (v := ?_) (by rfl) rfl ?_ ?_
  rotate_left 2
  · go_simp
    constructor
    · rfl
    · rfl
  refine hK.out _ _ ⟨(load32 H4c), (conv5 R5c)⟩ (fun hHeld => ?_)
  clear hK K
  refine norm_ (a' := ?_) ?_ ?_
  rotate_left
  · show Act.put _ (some 23) _ = _
    simp only [Act.put, List.setIfInBounds_toArray, List.set_cons_zero, List.set_cons_succ, i64_w, i32_w]
    rfl
  refine pure_ (i := 11) (N := some 26) (v := ?_) (a' := ?_) #[true, true, true, true, true, true, true, true, true, true, true, true, false, false, false, false, false] rfl rfl (by kernel_rfl) (fun _ _ _ h => h) (Or.inl ⟨by rfl, ?_⟩) ?_ ?_
  rotate_left
  · intro w'
    go_simp
    with_reducible rfl
  rotate_left
  · simp only [Act.put, List.setIfInBounds_toArray, List.set_cons_zero, List.set_cons_succ, i64_w, i32_w]
    rfl
  refine pure_ (i := 12) (N := some 27) (v := ?_) (a' := ?_) #[true, true, true, true, true, true, true, true, true, true, true, true, true, false, false, false, false] rfl rfl (by kernel_rfl) (fun _ _ _ h => h) (Or.inl ⟨by rfl, ?_⟩) ?_ ?_
  rotate_left
  · intro w'
    go_simp
    with_reducible rfl
  rotate_left
  · simp only [Act.put, List.setIfInBounds_toArray, List.set_cons_zero, List.set_cons_succ, i64_w, i32_w]
    rfl
  refine pure_ (i := 13) (N := some 28) (v := ?_) (a' := ?_) #[true, true, true, true, true, true, true, true, true, true, true, true, true, true, false, false, false] rfl rfl (by kernel_rfl) (fun _ _ _ h => h) (Or.inl ⟨by rfl, ?_⟩) ?_ ?_
  rotate_left
  · intro w'
    go_simp
    with_reducible rfl
  rotate_left
  · simp only [Act.put, List.setIfInBounds_toArray, List.set_cons_zero, List.set_cons_succ, i64_w, i32_w]
    rfl
  refine one_ (i := 14) (N := some 29) #[true, true, true, true, true, true, true, true, true, true, true, true, true, true, true, false, false] rfl rfl (by kernel_rfl) (by decide) (fun K hK => ?_)
  refine goes_ Try.func11 (by kernel_rfl) rfl #[] (by rfl) rfl rfl (by simp) ?_
  with_reducible refine (awake_calls w15).mono ?_
  rintro e w16 ⟨rfl, hd16⟩
  refine ⟨_, rfl, ?_⟩
  have H4d := H4c.below hd16
  have R5d := RV.below R5c hd16
  have V2d := RBs.below V2c hd16
  have BLd := Below.trans BLc (hd16.mono BLc.size)
  refine hK.out _ _ ⟨(load32 H4d), (conv5 R5d)⟩ (fun hHeld => ?_)
  clear hK K
  refine norm_ (a' := ?_) ?_ ?_
  rotate_left
  · show Act.put _ (some 29) _ = _
    simp only [Act.put, List.setIfInBounds_toArray, List.set_cons_zero, List.set_cons_succ, i64_w, i32_w]
    rfl
  refine pure_ (i := 15) (N := some 30) (v := ?_) (a' := ?_) #[true, true, true, true, true, true, true, true, true, true, true, true, true, true, true, true, false] rfl rfl (by kernel_rfl) (fun _ _ _ h => h) (Or.inl ⟨by rfl, ?_⟩) ?_ ?_
  rotate_left
  · intro w'
    go_simp
    with_reducible rfl
  rotate_left
  · simp only [Act.put, List.setIfInBounds_toArray, List.set_cons_zero, List.set_cons_succ, i64_w, i32_w]
    rfl
  refine pure_ (i := 16) (N := some 2) (v := ?_) (a' := ?_) #[true, true, true, true, true, true, true, true, true, true, true, true, true, true, true, true, true] rfl rfl (by kernel_rfl) (fun _ _ _ h => h) (Or.inl ⟨by rfl, ?_⟩) ?_ ?_
  rotate_left
  · intro w'
    go_simp
    with_reducible rfl
  rotate_left
  · simp only [Act.put, List.setIfInBounds_toArray, List.set_cons_zero, List.set_cons_succ, i64_w, i32_w]
    rfl
  refine done_ (by kernel_rfl) ?_
  go_wp2_with fail
  go_ret
  exact ⟨rfl, below_size2 AHB.out BLd⟩

end Go.Proofs.Ythhandkckbnafaa
