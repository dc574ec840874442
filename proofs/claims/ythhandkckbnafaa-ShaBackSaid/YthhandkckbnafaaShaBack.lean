/-
  ShaBack: the walk of the law: a sum that was written is read as it was; a text that is read is written as it was.
-/
import Derived.Test.YthhandkckbnafaaShaEq
import Derived.Test.YthhandkckbnafaaShaHex
set_option linter.unusedVariables false
set_option linter.unusedSimpArgs false
namespace Go.Proofs.Ythhandkckbnafaa
open Go.RowKit Go.Proofs.YthhandkckbnafaaZ.ZA Go.Proofs.YthhandkckbnafaaW.PrintWords Go.Proofs.YthhandkckbnafaaW.PrintLast Go.Proofs.YthhandkckbnafaaW.PrintMore
/-- An array of 32 bytes lies in block g. -/
def At32 (W : World) (g : Nat) (B : List Value) : Prop := W.heap[g]? = some (.cells B.toArray 26 (0, 0)) ∧ B.length = 32
theorem load32 {W : World} {g : Nat} {B : List Value} (h : At32 W g B) : Sem.run Try.prog (Instr.loadAt 26 (.pointer (some ⟨g, 0, none⟩))) W = .ok (.agg B.toArray) W :=
  run_loadAt_mid W g 0 26 B _ (fun j v hj => by rw [blk_cell h.1 (0 + j), Nat.zero_add, List.getElem?_toArray]; exact hj) Try.underlying26 rfl (by rw [h.2]; exact size32)
theorem At32.below {W W' : World} {g : Nat} {B : List Value} (h : At32 W g B) (hb : Below W.heap.size W W') : At32 W' g B := ⟨blk_below h.1 hb, h.2⟩
theorem At32.new (W : World) (B : List Value) (h : B.length = 32) : At32 (W.alloc (.cells B.toArray 26)) W.heap.size B := ⟨heap_alloc_new W _, h⟩
theorem At32.drew {W : World} {g : Nat} {B : List Value} (h : At32 W g B) : At32 W.drew g B := h
theorem At32.alloc {W : World} {g : Nat} {B : List Value} (h : At32 W g B) (o : Obj) : At32 (W.alloc o) g B := h.below ((Below.refl _ _).alloc (Nat.le_refl _) o)
theorem below_size2 {w w1 w2 : World} (h : Below w.heap.size w w1) (k : Below w1.heap.size w1 w2) : Below w.heap.size w w2 := Go.Proofs.Ythhandkckbnafaa.below_size h k
theorem exec_load {P : Program} {o : Oper} {a : Act} {w : World} {ty : TypeId} {x : Operand} {g : Nat} {v : Value} (ho : o.op = .load ty x) (hx : a.eval x = .pointer (some ⟨g, 0, none⟩)) (hl : Sem.run P (Instr.loadAt ty (.pointer (some ⟨g, 0, none⟩))) w = .ok v w) : (execOp a.eval o).run P w = .ok (.value v) w := by
  unfold execOp
  simp only [ho, hx]
  simp [hl]
theorem wpList_load32 {w : World} {ops : Array Oper} {rest : List Oper} {op : Oper} {a : Act} {Q : Exit → Act → World → Prop} (x : Operand) (g : Nat) (D : List Value) (hl : Sem.run Try.prog (Instr.loadAt 26 (.pointer (some ⟨g, 0, none⟩))) w = .ok (.agg D.toArray) w) (hgd : op.guard = none) (ho : op.op = .load 26 x) (hx : a.eval x = .pointer (some ⟨g, 0, none⟩))
    (h : wpList Try.prog ops Q rest (a.put op.dst (.agg D.toArray)) w) : wpList Try.prog ops Q (op :: rest) a w := by
  refine wpList_plain hgd fun K hK => ?_
  unfold Oper.wp
  rw [exec_load ho hx hl]
  exact hK _ _ h
theorem wpList_load32g {w : World} {ops : Array Oper} {rest : List Oper} {op : Oper} {a : Act} {Q : Exit → Act → World → Prop} (x : Operand) (g : Nat) (D : List Value) (hl : Sem.run Try.prog (Instr.loadAt 26 (.pointer (some ⟨g, 0, none⟩))) w = .ok (.agg D.toArray) w) (hw : Region.wanted op (yielded ops a.tmps) = true) (ho : op.op = .load 26 x) (hx : a.eval x = .pointer (some ⟨g, 0, none⟩))
    (h : wpList Try.prog ops Q rest (a.put op.dst (.agg D.toArray)) w) : wpList Try.prog ops Q (op :: rest) a w := by
  refine wpList_step fun K hK => ?_
  rw [if_pos hw]
  unfold Oper.wp
  rw [exec_load ho hx hl]
  exact hK _ _ h
theorem str_beq (a b : ByteArray) : (a == b) = decide (a = b) := by
  rw [beq_toListBytes]
  by_cases h : a = b
  · subst h; simp
  · rw [decide_eq_false h, beq_eq_false_iff_ne]
    intro h2
    rw [ByteArray.toList_eq, ByteArray.toList_eq] at h2
    exact h (by cases a; cases b; congr 1; exact Array.ext' h2)
theorem guard32 : Program.eqGuardType Try.prog Try.prog.depth 26 = false := by kernel_rfl
theorem cells32 (D : List UInt8) (h : D.length = 32) : (Try.prog.info? 26).map (·.size) = some (bs D).length := by rw [bs_length, h]; exact size32

set_option maxHeartbeats 4000000 in
set_option maxRecDepth 100000 in
theorem shaBack_walk (D E : List UInt8) (t : ByteArray) (hD : D.length = 32) (hE : E.length = 32) (w : World) :
    Calls Try.prog 8 #[.agg (bs D).toArray, .agg (bs E).toArray, .string t] w fun e w' => e = .returned (.bool true) ∧ Below w.heap.size w w' := by
  have H3 := (At32.new w (bs D) (by rw [bs_length, hD])).alloc (.cells (bs E).toArray 26)
  have H4 := At32.new (w.alloc (.cells (bs D).toArray 26)) (bs E) (by rw [bs_length, hE])
  have HB : Below w.heap.size w ((w.alloc (.cells (bs D).toArray 26)).alloc (.cells (bs E).toArray 26)) := ((Below.refl _ _).alloc (Nat.le_refl _) _).alloc (by simp) _
  rw [show (w.alloc (.cells (bs D).toArray 26)).heap.size = w.heap.size + 1 by simp] at H4
  obtain ⟨TD, hTD⟩ : ∃ T, st (hexs D) = T := ⟨_, rfl⟩
  obtain ⟨TE, hTE⟩ : ∃ T, st (hexs E) = T := ⟨_, rfl⟩
  have PD : ∀ W : World, Calls Try.prog 24 #[.agg (bs D).toArray] W fun e w' => e = .returned (.string TD) ∧ Below W.heap.size W w' := fun W => by rw [← hTD]; exact print_calls D hD W
  have PE : ∀ W : World, Calls Try.prog 24 #[.agg (bs E).toArray] W fun e w' => e = .returned (.string TE) ∧ Below W.heap.size W w' := fun W => by rw [← hTE]; exact print_calls E hE W
  have RD : ∀ W : World, Calls Try.prog 22 #[.string TD] W fun e w' => e = .returned (.tuple #[.agg (bs D).toArray, .bool true]) ∧ Below W.heap.size W w' := fun W => by
    have h := read_calls TD W
    rw [← hTD, tb_st, rdO_hex D hD, rdOk_hex D hD] at h
    rw [← hTD]; exact h
  have hsz : TD.size = 64 := by rw [← hTD, st_size, hexs_length, hD]
  have hq : (TE.toList == TD.toList) = (E == D) := by
    rw [← beq_toListBytes, ← hTD, ← hTE]
    rw [str_beq]
    by_cases h : E = D
    · rw [h]; simp
    · rw [beq_eq_false_iff_ne.2 h]
      exact decide_eq_false fun h2 => h (hexs_inj E D hE hD (st_inj.1 h2))
  have eDD := fun w => arr_eq 9998 D D hD hD w
  have eED := fun w => arr_eq 9998 E D hE hD w
  have hDD : (D == D) = true := beq_self_eq_true D
  rw [hDD] at eDD
  obtain ⟨q, hqq⟩ : ∃ q, (E == D) = q := ⟨_, rfl⟩
  rw [hqq] at hq eED
  have hg := guard32
  have RN : ∀ (s : ByteArray), s.size ≠ 64 → ∀ W : World, Calls Try.prog 22 #[.string s] W fun e w' => e = .returned (.tuple #[.agg (bs (List.replicate 32 0)).toArray, .bool false]) ∧ Below W.heap.size W w' := fun s hs W => by
    have h := read_calls s W
    have hno : rdOk (tb s) = false := rdOk_len _ (by rw [tb_length]; exact hs)
    have hO : rdO (tb s) = List.replicate 32 0 := by unfold rdO; rw [hno]; rfl
    rw [hno, hO] at h
    exact h
  have hZl : (bs (List.replicate 32 0)).length = 32 := rfl
  have hZo := bs_one (List.replicate 32 0)
  generalize bs (List.replicate 32 0) = Z at RN hZl hZo
  have RNA := Aside0.mk RN
  have AZl := Aside0.mk hZl
  have AZo := Aside0.mk hZo
  have AZs := Aside0.mk (p := (Try.prog.info? 26).map (·.size) = some Z.length) (by rw [hZl]; exact size32)
  clear RN hZl hZo
  have AD := Aside0.mk hD
  have A3 := Aside0.mk H3
  have A4 := Aside0.mk H4
  have AB := Aside0.mk HB
  have BP := Aside0.mk PD
  have PEA := Aside0.mk PE
  have BR := Aside0.mk RD
  have ATD := Aside0.mk hTD
  have L3 := load32 H3
  have AcD := Aside0.mk (cells32 D hD)
  have Aone := Aside0.mk (bs_one D)
  have ABL := Aside0.mk (p := (bs D).length = 32) (by rw [bs_length, hD])
  clear PD PE RD H3 H4 HB hqq hDD hTD hTE hD hE
  generalize hbD : (bs D) = BD at *
  generalize hbE : (bs E) = BE at *
  go_enter Try.func8, Try.ntmps8
  by_cases hlen : (1000 : Int) < (t.size : Int)
  · go_wp2_with (go_at_call 11; refine (awake_calls _).mono ?_; rintro e w1 ⟨rfl, hb1⟩)
    go_ret
    exact ⟨rfl, below_size2 AB.out hb1⟩
  · go_wp2_with (first
      | (go_at_call 24; with_reducible refine (BP.out _).mono ?_; rintro e w1 ⟨rfl, hb1⟩)
      | (go_at_call 22; with_reducible refine (BR.out _).mono ?_; rintro e w2 ⟨rfl, hb2⟩)
      | (with_reducible refine wpList_load32 (.tmp 3) w.heap.size BD L3 rfl rfl rfl ?_)
      | (refine wpList_store_new 26 (.tmp 8) (.tmp 25) _ BD AcD.out (ABL.out.symm ▸ by rfl) Aone.out rfl rfl rfl rfl ?_))
    have H8 := At32.new w2 BD ABL.out
    have hb3 := (Below.refl w2.heap.size w2).alloc (Nat.le_refl _) (.cells BD.toArray 26)
    have H3 := ((A3.out.below hb1).below hb2).below hb3
    have H4 := ((A4.out.below hb1).below hb2).below hb3
    have HB := below_size2 (below_size2 (below_size2 AB.out hb1) hb2) hb3
    clear hb1 hb2 hb3 L3
    generalize World.alloc w2 _ = w4 at H8 H3 H4 HB ⊢
    obtain ⟨p8, hp8⟩ : ∃ x, w2.heap.size = x := ⟨_, rfl⟩
    obtain ⟨p3, hp3⟩ : ∃ x, w.heap.size = x := ⟨_, rfl⟩
    rw [hp8] at H8
    rw [hp3] at H3
    rw [hp3] at H4
    simp only [hp8, hp3]
    have A4b := Aside0.mk HB
    clear hp8 HB
    have H3 := H3.drew
    have H4 := H4.drew
    have H8 := H8.drew
    have HB : Below w.heap.size w w4.drew := A4b.out.drew
    refine start_ (n := 22) (S := fun w' => Sem.run Try.prog (Instr.loadAt 26 (.pointer (some ⟨p3, 0, none⟩))) w' = .ok (.agg BD.toArray) w' ∧ Sem.run Try.prog (Instr.loadAt 26 (.pointer (some ⟨p3 + 1, 0, none⟩))) w' = .ok (.agg BE.toArray) w' ∧ Sem.run Try.prog (Instr.loadAt 26 (.pointer (some ⟨p8, 0, none⟩))) w' = .ok (.agg BD.toArray) w') (ds := []) #[false, false, false, false, false, false, false, false, false, false, false, false, false, false, false, false, false, false, false, false, false, false] (by kernel_rfl) rfl rfl ⟨(load32 H3), (load32 H4), (load32 H8)⟩ (fun hHeld => ?_)
    generalize w4.drew = w5 at H3 H4 H8 HB hHeld ⊢
    refine pure_ (i := 0) (N := some 27) (v := ?_) (a' := ?_) #[true, false, false, false, false, false, false, false, false, false, false, false, false, false, false, false, false, false, false, false, false, false] rfl rfl (by kernel_rfl) (fun _ _ _ h => h) (Or.inl ⟨by rfl, ?_⟩) ?_ ?_
    rotate_left
    · intro w'
      go_simp
      with_reducible rfl
    rotate_left
    · simp only [Act.put, List.setIfInBounds_toArray, List.set_cons_zero, List.set_cons_succ, i64_w, i32_w]
      rfl
    refine pure_ (i := 1) (N := some 28) (v := ?_) (a' := ?_) #[true, true, false, false, false, false, false, false, false, false, false, false, false, false, false, false, false, false, false, false, false, false] rfl rfl (by kernel_rfl) (fun _ _ _ h => h) (Or.inl ⟨by rfl, ?_⟩) ?_ ?_
    rotate_left
    · intro w'
      go_simp
      with_reducible rfl
    rotate_left
    · simp only [Act.put, List.setIfInBounds_toArray, List.set_cons_zero, List.set_cons_succ, i64_w, i32_w]
      rfl
    refine pure_ (i := 2) (N := some 29) (v := ?_) (a' := ?_) #[true, true, true, false, false, false, false, false, false, false, false, false, false, false, false, false, false, false, false, false, false, false] rfl rfl (by kernel_rfl) (fun _ _ _ h => h) (Or.inl ⟨by rfl, ?_⟩) ?_ ?_
    rotate_left
    · intro w'
      go_simp
      with_reducible rfl
    rotate_left
    · simp only [Act.put, List.setIfInBounds_toArray, List.set_cons_zero, List.set_cons_succ, i64_w, i32_w]
      rfl
    refine take_ (i := 3) (N := some 30) (v := .agg BD.toArray) (a' := ?_) #[true, true, true, true, false, false, false, false, false, false, false, false, false, false, false, false, false, false, false, false, false, false] rfl rfl (by kernel_rfl) (fun _ _ _ h => h) (Or.inl ⟨by rfl, ?_⟩) hHeld ?_ ?_
    · rintro w' ⟨s0, s1, s2⟩
      exact exec_load rfl rfl s2
    rotate_left
    · simp only [Act.put, List.setIfInBounds_toArray, List.set_cons_zero, List.set_cons_succ, i64_w, i32_w]
      rfl
    refine take_ (i := 4) (N := some 31) (v := .agg BD.toArray) (a' := ?_) #[true, true, true, true, true, false, false, false, false, false, false, false, false, false, false, false, false, false, false, false, false, false] rfl rfl (by kernel_rfl) (fun _ _ _ h => h) (Or.inl ⟨by rfl, ?_⟩) hHeld ?_ ?_
    · rintro w' ⟨s0, s1, s2⟩
      exact exec_load rfl rfl s0
    rotate_left
    · simp only [Act.put, List.setIfInBounds_toArray, List.set_cons_zero, List.set_cons_succ, i64_w, i32_w]
      rfl
    refine pure_ (i := 5) (N := some 32) (v := ?_) (a' := ?_) #[true, true, true, true, true, true, false, false, false, false, false, false, false, false, false, false, false, false, false, false, false, false] rfl rfl (by kernel_rfl) (fun _ _ _ h => h) (Or.inl ⟨by rfl, ?_⟩) ?_ ?_
    rotate_left
    · intro w'
      go_simp
      with_reducible rfl
    rotate_left
    · simp only [Act.put, List.setIfInBounds_toArray, List.set_cons_zero, List.set_cons_succ, i64_w, i32_w]
      rfl
    refine pure_ (i := 6) (N := some 33) (v := ?_) (a' := ?_) #[true, true, true, true, true, true, true, false, false, false, false, false, false, false, false, false, false, false, false, false, false, false] rfl rfl (by kernel_rfl) (fun _ _ _ h => h) (Or.inl ⟨by rfl, ?_⟩) ?_ ?_
    rotate_left
    · intro w'
      go_simp
      with_reducible rfl
    rotate_left
    · simp only [Act.put, List.setIfInBounds_toArray, List.set_cons_zero, List.set_cons_succ, i64_w, i32_w]
      rfl
    refine pure_ (i := 7) (N := some 34) (v := ?_) (a' := ?_) #[true, true, true, true, true, true, true, true, false, false, false, false, false, false, false, false, false, false, false, false, false, false] rfl rfl (by kernel_rfl) (fun _ _ _ h => h) (Or.inl ⟨by rfl, ?_⟩) ?_ ?_
    rotate_left
    · intro w'
      go_simp
      with_reducible rfl
    rotate_left
    · simp only [Act.put, List.setIfInBounds_toArray, List.set_cons_zero, List.set_cons_succ, i64_w, i32_w]
      rfl
    refine pure_ (i := 8) (N := some 35) (v := ?_) (a' := ?_) #[true, true, true, true, true, true, true, true, true, false, false, false, false, false, false, false, false, false, false, false, false, false] rfl rfl (by kernel_rfl) (fun _ _ _ h => h) (Or.inl ⟨by rfl, ?_⟩) ?_ ?_
    rotate_left
    · intro w'
      go_simp
      with_reducible rfl
    rotate_left
    · simp only [Act.put, List.setIfInBounds_toArray, List.set_cons_zero, List.set_cons_succ, i64_w, i32_w]
      rfl
    refine pure_ (i := 9) (N := some 36) (v := ?_) (a' := ?_) #[true, true, true, true, true, true, true, true, true, true, false, false, false, false, false, false, false, false, false, false, false, false] rfl rfl (by kernel_rfl) (fun _ _ _ h => h) (Or.inl ⟨by rfl, ?_⟩) ?_ ?_
    rotate_left
    · intro w'
      go_simp
      with_reducible rfl
    rotate_left
    · simp only [Act.put, List.setIfInBounds_toArray, List.set_cons_zero, List.set_cons_succ, i64_w, i32_w]
      rfl
    refine pure_ (i := 10) (N := some 37) (v := ?_) (a' := ?_) #[true, true, true, true, true, true, true, true, true, true, true, false, false, false, false, false, false, false, false, false, false, false] rfl rfl (by kernel_rfl) (fun _ _ _ h => h) (Or.inl ⟨by rfl, ?_⟩) ?_ ?_
    rotate_left
    · intro w'
      go_simp
      with_reducible rfl
    rotate_left
    · simp only [Act.put, List.setIfInBounds_toArray, List.set_cons_zero, List.set_cons_succ, i64_w, i32_w]
      rfl
    refine pure_ (i := 11) (N := some 38) (v := ?_) (a' := ?_) #[true, true, true, true, true, true, true, true, true, true, true, true, false, false, false, false, false, false, false, false, false, false] rfl rfl (by kernel_rfl) (fun _ _ _ h => h) (Or.inl ⟨by rfl, ?_⟩) ?_ ?_
    rotate_left
    · intro w'
      go_simp
      with_reducible rfl
    rotate_left
    · simp only [Act.put, List.setIfInBounds_toArray, List.set_cons_zero, List.set_cons_succ, i64_w, i32_w]
      rfl
    refine pure_ (i := 12) (N := some 39) (v := ?_) (a' := ?_) #[true, true, true, true, true, true, true, true, true, true, true, true, true, false, false, false, false, false, false, false, false, false] rfl rfl (by kernel_rfl) (fun _ _ _ h => h) (Or.inl ⟨by rfl, ?_⟩) ?_ ?_
    rotate_left
    · intro w'
      go_simp
      with_reducible rfl
    rotate_left
    · simp only [Act.put, List.setIfInBounds_toArray, List.set_cons_zero, List.set_cons_succ, i64_w, i32_w]
      rfl
    refine pure_ (i := 15) (N := some 42) (v := ?_) (a' := ?_) #[true, true, true, true, true, true, true, true, true, true, true, true, true, false, false, true, false, false, false, false, false, false] rfl rfl (by kernel_rfl) (fun _ _ _ h => h) (Or.inl ⟨by rfl, ?_⟩) ?_ ?_
    rotate_left
    · intro w'
      go_simp
      with_reducible rfl
    rotate_left
    · simp only [Act.put, List.setIfInBounds_toArray, List.set_cons_zero, List.set_cons_succ, i64_w, i32_w]
      rfl
    refine take_ (i := 13) (N := some 40) (v := .agg BE.toArray) (a' := ?_) #[true, true, true, true, true, true, true, true, true, true, true, true, true, true, false, true, false, false, false, false, false, false] rfl rfl (by kernel_rfl) (fun _ _ _ h => h) (Or.inl ⟨by rfl, ?_⟩) hHeld ?_ ?_
    · rintro w' ⟨s0, s1, s2⟩
      exact exec_load rfl rfl s1
    rotate_left
    · simp only [Act.put, List.setIfInBounds_toArray, List.set_cons_zero, List.set_cons_succ, i64_w, i32_w]
      rfl
    refine take_ (i := 17) (N := some 44) (v := .agg BE.toArray) (a' := ?_) #[true, true, true, true, true, true, true, true, true, true, true, true, true, true, false, true, false, true, false, false, false, false] rfl rfl (by kernel_rfl) (fun _ _ _ h => h) (Or.inl ⟨by rfl, ?_⟩) hHeld ?_ ?_
    · rintro w' ⟨s0, s1, s2⟩
      exact exec_load rfl rfl s1
    rotate_left
    · simp only [Act.put, List.setIfInBounds_toArray, List.set_cons_zero, List.set_cons_succ, i64_w, i32_w]
      rfl
    refine take_ (i := 18) (N := some 45) (v := .agg BD.toArray) (a' := ?_) #[true, true, true, true, true, true, true, true, true, true, true, true, true, true, false, true, false, true, true, false, false, false] rfl rfl (by kernel_rfl) (fun _ _ _ h => h) (Or.inl ⟨by rfl, ?_⟩) hHeld ?_ ?_
    · rintro w' ⟨s0, s1, s2⟩
      exact exec_load rfl rfl s0
    rotate_left
    · simp only [Act.put, List.setIfInBounds_toArray, List.set_cons_zero, List.set_cons_succ, i64_w, i32_w]
      rfl
    refine pure_ (i := 19) (N := some 46) (v := ?_) (a' := ?_) #[true, true, true, true, true, true, true, true, true, true, true, true, true, true, false, true, false, true, true, true, false, false] rfl rfl (by kernel_rfl) (fun _ _ _ h => h) (Or.inl ⟨by rfl, ?_⟩) ?_ ?_
    rotate_left
    · intro w'
      go_simp
      with_reducible rfl
    rotate_left
    · simp only [Act.put, List.setIfInBounds_toArray, List.set_cons_zero, List.set_cons_succ, i64_w, i32_w]
      rfl
    refine one_ (i := 14) (N := some 41) #[true, true, true, true, true, true, true, true, true, true, true, true, true, true, true, true, false, true, true, true, false, false] rfl rfl (by kernel_rfl) (by decide) (fun K hK => ?_)
    refine goes_ Try.func24 (by kernel_rfl) rfl #[.agg BE.toArray] (by rfl) rfl rfl (by simp only [List.map_toArray, List.map_cons, List.map_nil]; rfl) ?_
    with_reducible refine (PEA.out w5).mono ?_
    rintro e w6 ⟨rfl, hd6⟩
    refine ⟨_, rfl, ?_⟩
    have G3 := H3.below hd6
    have G4 := H4.below hd6
    have G8 := H8.below hd6
    have GB := below_size2 HB hd6
    refine hK.out _ _ ⟨(load32 G3), (load32 G4), (load32 G8)⟩ (fun hHeld => ?_)
    clear hK K
    refine norm_ (a' := ?_) ?_ ?_
    rotate_left
    · show Act.put _ (some 41) _ = _
      simp only [Act.put, List.setIfInBounds_toArray, List.set_cons_zero, List.set_cons_succ, i64_w, i32_w]
      rfl
    refine pure_ (i := 16) (N := some 43) (v := ?_) (a' := ?_) #[true, true, true, true, true, true, true, true, true, true, true, true, true, true, true, true, true, true, true, true, false, false] rfl rfl (by kernel_rfl) (fun _ _ _ h => h) (Or.inl ⟨by rfl, ?_⟩) ?_ ?_
    rotate_left
    · intro w'
      go_simp
      with_reducible rfl
    rotate_left
    · simp only [Act.put, List.setIfInBounds_toArray, List.set_cons_zero, List.set_cons_succ, i64_w, i32_w]
      rfl
    refine pure_ (i := 20) (N := some 47) (v := ?_) (a' := ?_) #[true, true, true, true, true, true, true, true, true, true, true, true, true, true, true, true, true, true, true, true, true, false] rfl rfl (by kernel_rfl) (fun _ _ _ h => h) (Or.inl ⟨by rfl, ?_⟩) ?_ ?_
    rotate_left
    · intro w'
      go_simp
      with_reducible rfl
    rotate_left
    · simp only [Act.put, List.setIfInBounds_toArray, List.set_cons_zero, List.set_cons_succ, i64_w, i32_w]
      rfl
    refine pure_ (i := 21) (N := some 48) (v := ?_) (a' := ?_) #[true, true, true, true, true, true, true, true, true, true, true, true, true, true, true, true, true, true, true, true, true, true] rfl rfl (by kernel_rfl) (fun _ _ _ h => h) (Or.inl ⟨by rfl, ?_⟩) ?_ ?_
    rotate_left
    · intro w'
      go_simp
      with_reducible rfl
    rotate_left
    · simp only [Act.put, List.setIfInBounds_toArray, List.set_cons_zero, List.set_cons_succ, i64_w, i32_w]
      rfl
    refine done_ (by kernel_rfl) ?_
    clear H3 H4 H8 HB hHeld PEA A4b
    have HB6 := Aside0.mk GB
    clear G3 G4 G8 GB hd6
    have AS1 := Aside0.mk (p := (TD ++ { data := #[48] }).size ≠ 64) (by rw [ByteArray.size_append, hsz]; decide)
    have AS2 := Aside0.mk (p := (TD.extract 1 64).size ≠ 64) (by rw [ByteArray.size_extract, hsz]; decide)
    cases hok : rdOk (tb t) with
    | true =>
      have PT : ∀ W : World, Calls Try.prog 24 #[.agg (bs (rdO (tb t))).toArray] W fun e w' => e = .returned (.string t) ∧ Below W.heap.size W w' := fun W => by
        have h := print_calls (rdO (tb t)) (rdO_length _) W
        rw [hex_rd _ hok, st_tb] at h
        exact h
      have RT : ∀ W : World, Calls Try.prog 22 #[.string t] W fun e w' => e = .returned (.tuple #[.agg (bs (rdO (tb t))).toArray, .bool true]) ∧ Below W.heap.size W w' := fun W => by
        have h := read_calls t W
        rw [hok] at h
        exact h
      have hXl : (bs (rdO (tb t))).length = 32 := by rw [bs_length, rdO_length]
      have hXo := bs_one (rdO (tb t))
      generalize bs (rdO (tb t)) = BX at PT RT hXl hXo
      have APT := Aside0.mk PT
      have ART := Aside0.mk RT
      have AXl := Aside0.mk hXl
      have AXo := Aside0.mk hXo
      have AXs := Aside0.mk (p := (Try.prog.info? 26).map (·.size) = some BX.length) (by rw [hXl]; exact size32)
      clear PT RT hXl hXo hok
      go_wp2_with (first
        | (go_at_call 22; first | (with_reducible refine (RNA.out _ AS1.out _).mono ?_; rintro e w7 ⟨rfl, hb7⟩) | (with_reducible refine (RNA.out _ AS2.out _).mono ?_; rintro e w8 ⟨rfl, hb8⟩) | (with_reducible refine (ART.out _).mono ?_; rintro e w9 ⟨rfl, hb9⟩))
        | (refine wpList_store_new 26 (.tmp 10) (.tmp 53) _ Z AZs.out (AZl.out.symm ▸ by rfl) AZo.out rfl rfl rfl rfl ?_)
        | (refine wpList_store_new 26 (.tmp 12) (.tmp 59) _ Z AZs.out (AZl.out.symm ▸ by rfl) AZo.out rfl rfl rfl rfl ?_)
        | (refine wpList_store_new 26 (.tmp 14) (.tmp 64) _ BX AXs.out (AXl.out.symm ▸ by rfl) AXo.out rfl rfl rfl rfl ?_; have L14 := load32 (At32.new w9 BX AXl.out))
        | (refine wpList_load32g (.tmp 14) w9.heap.size BX L14 (by rfl) rfl rfl ?_)
        | (go_at_call 24; with_reducible refine (APT.out _).mono ?_; rintro e w10 ⟨rfl, hb10⟩)
        | (go_at_call 11; refine (awake_calls _).mono ?_; rintro e w11 ⟨rfl, hb11⟩))
      go_ret
      have c7 := below_size2 HB6.out hb7
      have c8 := below_size2 (c7.alloc c7.size (.cells Z.toArray 26)) hb8
      have c9 := below_size2 (c8.alloc c8.size (.cells Z.toArray 26)) hb9
      exact ⟨rfl, below_size2 (below_size2 (c9.alloc c9.size (.cells BX.toArray 26)) hb10) hb11⟩
    | false =>
      have hO : rdO (tb t) = List.replicate 32 0 := by unfold rdO; rw [hok]; rfl
      have RT : ∀ W : World, Calls Try.prog 22 #[.string t] W fun e w' => e = .returned (.tuple #[.agg (bs (List.replicate 32 0)).toArray, .bool false]) ∧ Below W.heap.size W w' := fun W => by
        have h := read_calls t W
        rw [hok, hO] at h
        exact h
      have eZZ : ∀ w : World, Sem.run Try.prog (Op.equalIn 10000 26 (.agg (bs (List.replicate 32 0)).toArray) (.agg #[.int .u8 0, .int .u8 0, .int .u8 0, .int .u8 0, .int .u8 0, .int .u8 0, .int .u8 0, .int .u8 0, .int .u8 0, .int .u8 0, .int .u8 0, .int .u8 0, .int .u8 0, .int .u8 0, .int .u8 0, .int .u8 0, .int .u8 0, .int .u8 0, .int .u8 0, .int .u8 0, .int .u8 0, .int .u8 0, .int .u8 0, .int .u8 0, .int .u8 0, .int .u8 0, .int .u8 0, .int .u8 0, .int .u8 0, .int .u8 0, .int .u8 0, .int .u8 0])) w = .ok true w := fun w => arr_eq 9998 (List.replicate 32 0) (List.replicate 32 0) rfl rfl w
      have hXl : (bs (List.replicate 32 0)).length = 32 := rfl
      have hXo := bs_one (List.replicate 32 0)
      generalize bs (List.replicate 32 0) = BX at RT hXl hXo eZZ
      have ART := Aside0.mk RT
      have AXl := Aside0.mk hXl
      have AXo := Aside0.mk hXo
      have AXs := Aside0.mk (p := (Try.prog.info? 26).map (·.size) = some BX.length) (by rw [hXl]; exact size32)
      clear RT hXl hXo hok hO
      go_wp2_with (first
        | (go_at_call 22; first | (with_reducible refine (RNA.out _ AS1.out _).mono ?_; rintro e w7 ⟨rfl, hb7⟩) | (with_reducible refine (RNA.out _ AS2.out _).mono ?_; rintro e w8 ⟨rfl, hb8⟩) | (with_reducible refine (ART.out _).mono ?_; rintro e w9 ⟨rfl, hb9⟩))
        | (refine wpList_store_new 26 (.tmp 10) (.tmp 53) _ Z AZs.out (AZl.out.symm ▸ by rfl) AZo.out rfl rfl rfl rfl ?_)
        | (refine wpList_store_new 26 (.tmp 12) (.tmp 59) _ Z AZs.out (AZl.out.symm ▸ by rfl) AZo.out rfl rfl rfl rfl ?_)
        | (refine wpList_store_new 26 (.tmp 14) (.tmp 64) _ BX AXs.out (AXl.out.symm ▸ by rfl) AXo.out rfl rfl rfl rfl ?_; have L14 := load32 (At32.new w9 BX AXl.out))
        | (refine wpList_load32g (.tmp 14) w9.heap.size BX L14 (by rfl) rfl rfl ?_)
        | (go_at_call 11; refine (awake_calls _).mono ?_; rintro e w11 ⟨rfl, hb11⟩))
      go_ret
      have c7 := below_size2 HB6.out hb7
      have c8 := below_size2 (c7.alloc c7.size (.cells Z.toArray 26)) hb8
      have c9 := below_size2 (c8.alloc c8.size (.cells Z.toArray 26)) hb9
      exact ⟨rfl, below_size2 (c9.alloc c9.size (.cells BX.toArray 26)) hb11⟩
theorem shaBack_row (D E : List UInt8) (t : ByteArray) (w : World) (hD : D.length = 32) (hE : E.length = 32) (_ : t.size ≤ maxLen) : Calls Try.prog 8 #[.agg (bs D).toArray, .agg (bs E).toArray, .string t] w fun e w' => e = .returned (.bool true) ∧ Below w.heap.size w w' := shaBack_walk D E t hD hE w

end Go.Proofs.Ythhandkckbnafaa
