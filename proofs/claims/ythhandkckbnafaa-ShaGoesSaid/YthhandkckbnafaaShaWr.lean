/-
  (*Hash).Write, and where the bytes that are not yet taken lie behind it (HSP).
-/
import Derived.Test.YthhandkckbnafaaShaHash2
set_option linter.unusedVariables false
set_option linter.unusedSimpArgs false
namespace Go.Proofs.Ythhandkckbnafaa
open Go.RowKit Go.Proofs.YthhandkckbnafaaZ.ZA Go.Proofs.YthhandkckbnafaaW.PrintWords Go.Proofs.YthhandkckbnafaaW.PrintLast Go.Proofs.YthhandkckbnafaaW.PrintMore
/-- As HS; the block of the bytes that were not taken is one of P. -/
def HSP (P : Nat → Prop) (w0 W : World) (g : Nat) (M : List UInt8) (b : Nat) : Prop := ∃ (H : List Nat) (A : Option Addr) (c : Nat), Blk w0 W g H b A (M.length - 64 * b) c ∧ Eight H ∧ (0 < b → H = hN M b) ∧ RV W (.slice A (M.length - 64 * b) c) (M.length - 64 * b) 1 (bs (M.drop (64 * b))) ∧ 64 * b ≤ M.length ∧ ∀ a, A = some a → P a.block
section
variable {P Q : Nat → Prop} {w0 W W' : World} {g b : Nat} {M : List UInt8}
theorem HSP.hs (h : HSP P w0 W g M b) : HS w0 W g M b := by obtain ⟨H, A, c, h1, h2, h3, h4, h5, _⟩ := h; exact ⟨H, A, c, h1, h2, h3, h4, h5⟩
theorem HSP.now (h : HSP P w0 W g M b) : HSP P W W g M b := by
  obtain ⟨H, A, c, h1, h2, h3, h4, h5, h6⟩ := h
  exact ⟨H, A, c, ⟨h1.1, h1.2.1, World.grownBy.refl _ _⟩, h2, h3, h4, h5, h6⟩
theorem HSP.mono (h : HSP P w0 W g M b) (hP : ∀ r, P r → Q r) : HSP Q w0 W g M b := by
  obtain ⟨H, A, c, h1, h2, h3, h4, h5, h6⟩ := h
  exact ⟨H, A, c, h1, h2, h3, h4, h5, fun a e => hP _ (h6 a e)⟩
theorem HSP.below (h : HSP P w0 W g M b) (hb : Below W.heap.size W W') : HSP P w0 W' g M b := by
  obtain ⟨H, A, c, h1, h2, h3, h4, h5, h6⟩ := h
  exact ⟨H, A, c, h1.below hb, h2, h3, h4.below hb, h5, h6⟩
theorem RV.apart {v : Value} {n sz : Nat} {xs : List Value} {q : Option Nat} {A : Option Addr} {c : Nat} (h : RV W (.slice A n c) n sz xs) (hg : W.grownBy W' q) (hq : ∀ a, A = some a → q ≠ some a.block) : RV W' (.slice A n c) n sz xs := by
  obtain ⟨hl, A', c', e, h1, h2, h3⟩ := h
  rw [Value.slice.injEq] at e
  obtain ⟨rfl, -, rfl⟩ := e
  refine ⟨hl, A, c, rfl, h1, h2, fun hx => ?_⟩
  obtain ⟨b, o, e, hc⟩ := h3 hx
  exact ⟨b, o, e, fun j u hj => hg.cell (hc j u hj) (fun e' => hq _ e e'.symm)⟩
/-- What is turned elsewhere leaves it. -/
theorem HSP.apart (h : HSP P w0 W g M b) {q : Option Nat} (hg : W.grownBy W' q) (hqg : q ≠ some g) (hq : ∀ r, P r → q ≠ some r) : HSP P W' W' g M b := by
  obtain ⟨H, A, c, h1, h2, h3, h4, h5, h6⟩ := h
  have hlt := blk_lt h1.1
  refine ⟨H, A, c, ⟨?_, h1.2.1, World.grownBy.refl _ _⟩, h2, h3, RV.apart (v := .slice A (M.length - 64 * b) c) h4 hg (fun a e => hq _ (h6 a e)), h5, h6⟩
  rw [hg.block g hlt (fun e => hqg e.symm)]
  exact h1.1
theorem HSP.nil {W : World} {g : Nat} (h : HS W W g [] 0) : HSP (fun r => Value.ownBlock (.slice none 0 0) ≠ some r) W W g [] 0 := by
  obtain ⟨H, A, c, h1, h2, h3, h4, h5⟩ := h
  exact ⟨H, A, c, h1, h2, h3, h4, h5, fun a _ => by intro h; cases h⟩
theorem HSP.lt (h : HSP P w0 W g M b) : g < W.heap.size := by obtain ⟨H, A, c, h1, _⟩ := h; exact blk_lt h1.1
theorem HSP.grown (h : HSP P w0 W g M b) : w0.grownBy W (some g) := h.hs.grown
theorem HSP.block (h : HSP P w0 W g M b) : ∃ cs, W.heap[g]? = some (.cells cs 39 (0, 0)) := by obtain ⟨H, A, c, h1, _⟩ := h; exact ⟨_, h1.1⟩
theorem HSP.bytes (h : HSP P w0 W g M b) {v : Value} {m : Nat} {xs : List UInt8} (hr : RV W v m 1 (bs xs)) (hk : W.grownBy W' (some g)) : RV W' v m 1 (bs xs) := by obtain ⟨H, A, c, h1, _⟩ := h; exact h1.bytes hr hk
end

set_option maxHeartbeats 4000000 in
theorem write_at (g : Nat) (lv : Value) (M0 : List UInt8) (b0 : Nat) (l : List (List UInt8)) (w : World) (h : HS w w g M0 b0) (hlv : RBs w lv l) (hl : (M0 ++ l.flatten).length ≤ 70368744177664) (hn : l.length ≤ 1000000000) :
    Calls Try.prog 18 #[.pointer (some ⟨g, 0, none⟩), lv] w fun e w' => e = .returned (.tuple #[]) ∧ HSP (fun r => w.heap.size ≤ r) w w' g (M0 ++ l.flatten) ((M0 ++ l.flatten).length / 64) := by
  obtain ⟨H0, A0, c0, hB0, hE0, hH0, hR0, hb0⟩ := h
  obtain ⟨vs, hvs, hel⟩ := hlv
  obtain ⟨Al, cl, rfl⟩ := hvs.slice
  have hmaxl := hvs.max
  have hvs1 : ∀ u ∈ vs, u.oneCell' = true := fun u hu => by
    obtain ⟨i, hi⟩ := List.mem_iff_getElem?.1 hu
    have hlen := hvs.len
    have hil : i < l.length := by have := (List.getElem?_eq_some_iff.1 hi).1; omega
    obtain ⟨A', c', rfl⟩ := (hel i u l[i] hi (List.getElem?_eq_getElem hil)).slice
    rfl
  have hg0 := blk_lt hB0.1
  obtain ⟨n0, hn0⟩ : ∃ n, M0.length - 64 * b0 = n := ⟨_, rfl⟩
  rw [hn0] at hB0 hR0
  have p9 := hB0.c9
  have f9 := hB0.fz 9
  obtain ⟨M, hM⟩ : ∃ M, M0 ++ l.flatten = M := ⟨_, rfl⟩
  have hML : M.length = M0.length + l.flatten.length := by rw [← hM, List.length_append]
  have hrest : (M0.drop (64 * b0) :: l).flatten = M.drop (64 * b0) := by rw [← hM, List.drop_append_of_le_length hb0]; rfl
  have hnM : ∀ k, 64 * k ≤ M0.length → hN M k = hN M0 k := fun k hk => by rw [← hM]; exact hN_more _ _ _ hk
  rw [hM] at hl ⊢
  have hRows : ∀ w2 : World, Below w.heap.size (w.alloc (.cells #[.slice A0 n0 c0] 28)) w2 → ∀ v2, w2.ownsRow w.heap.size 28 1 v2 (1 + l.length) ([.slice A0 n0 c0] ++ vs) → RBs w2 v2 (M0.drop (64 * b0) :: l) := by
    intro w2 hb2 v2 ho
    have hbb : Below w.heap.size w w2 := ((Below.refl _ _).alloc (Nat.le_refl _) _).trans hb2
    refine RBs_cons (RV_own ho) ?_ (fun i u y hu hy => (hel i u y hu hy).below hbb)
    have := hR0.below hbb
    rwa [show (M0.drop (64 * b0)).length = n0 by rw [List.length_drop]; exact hn0]
  have hO : (w.alloc (.cells #[.slice A0 n0 c0] 28)).ownsRow w.heap.size 28 1 (.slice (some ⟨w.heap.size, 0, none⟩) 1 1) 1 [.slice A0 n0 c0] := ⟨rfl, .inr ⟨w.heap.size, 1, _, rfl, Nat.le_refl _, heap_alloc_new w _, by decide, by decide, rfl, rfl⟩⟩
  have hvs2 := hvs.alloc (.cells #[.slice A0 n0 c0] 28)
  have AO := Aside0.mk hO
  have AV := Aside0.mk hvs2
  have ARW := Aside0.mk hRows
  have A1 := Aside0.mk hvs1
  have AH0 := Aside0.mk hH0
  have AE0 := Aside0.mk hE0
  have AB0 := Aside0.mk hB0
  have AN := Aside0.mk hnM
  have ARest := Aside0.mk hrest
  have AN0 := Aside0.mk hn0
  have hcl : (M0.drop (64 * b0) :: l).flatten.length ≤ 140737488355328 := by rw [hrest, List.length_drop]; omega
  have ACL := Aside0.mk hcl
  have AML := Aside0.mk hML
  clear hO hvs2 hRows hvs1 hH0 hE0 hB0 hnM hrest hn0 hR0 hel hcl hM hML
  go_enter Try.func18, Try.ntmps18
  go_wp2_with (first | (at_builtin; refine wpList_append_rv (.tmp 11) (.tmp 12) 22 w.heap.size 28 (.slice none 0 0) 1 24 Try.underlying22 info_sl AO.out AV.out A1.out (by omega) (by simp) rfl rfl rfl rfl rfl (by decide) (by decide) ?_; intro v2 w2 ho2 hb2 hg2) | (go_at_call 29; refine (concat_calls _ _ _ (ARW.out w2 hb2 v2 ho2) ACL.out).mono ?_; rintro e w3 ⟨v3, rfl, ho3, hb3⟩; have hbW : Below w.heap.size w w3 := (((Below.refl _ _).alloc (Nat.le_refl _) _).trans hb2).trans (hb3.mono (((Below.refl _ _).alloc (Nat.le_refl _) _).trans hb2).size); have hB3 := AB0.out.below hbW; have hR3 := RV_own ho3; rw [ARest.out] at hR3; obtain ⟨n3, hn3⟩ : ∃ n, (M.drop (64 * b0)).length = n := ⟨_, rfl⟩; rw [hn3] at hR3; obtain ⟨A3, c3, rfl⟩ := hR3.slice; have hq3 : ∀ a, A3 = some a → w.heap.size ≤ a.block := fun a e => Nat.le_trans ((((Below.refl _ _).alloc (Nat.le_refl _) _).trans hb2).size) (own_ge ho3 a.block (by subst e; rfl)); have AN3 := Aside0.mk hn3; have AB3 := Aside0.mk hB3; have AR3 := Aside0.mk hR3; have q9 := hB3.c9; have g9 := hB3.fz 9; clear hR3 hB3 ho3 hb3 hbW hn3))
  have hS0 : HSP (fun r => w.heap.size ≤ r) w (w3.setCell ⟨g, 9, none⟩ (.slice A3 n3 c3)) g M b0 := by
    have hB4 := AB3.out.set9 A3 n3 c3
    have hR4 := AB3.out.bytes AR3.out (grown_setCell w3 g 9 (.slice A3 n3 c3))
    have hdl : n3 = M.length - 64 * b0 := by rw [← AN3.out, List.length_drop]
    rw [hdl] at hB4 hR4 ⊢
    exact ⟨H0, A3, c3, hB4, AE0.out, fun hp => by rw [AN.out b0 hb0]; exact AH0.out hp, hR4, by rw [AML.out]; omega, hq3⟩
  generalize World.setCell w3 _ _ = w4 at hS0 ⊢
  clear AN3 AO AV ARW A1 AH0 AE0 AB0 AN ARest AN0 ACL AB3 AR3 q9 g9 p9 f9 hvs hmaxl hg2 hb2 ho2 hq3
  go_loopw [] (fun wr => ∃ b : Nat, HSP (fun r => w.heap.size ≤ r) w wr g M b) (fun wr => M.length / 64 - (intOf ((wr.cell? ⟨g, 8, none⟩).getD undef)).toNat)
  case atStart => exact ⟨b0, hS0⟩
  case round =>
    clear hS0
    obtain ⟨b, H, A, c, hB, hE, hH, hR, hb64, hqA⟩ := hrel
    obtain ⟨n, hn⟩ : ∃ n, M.length - 64 * b = n := ⟨_, rfl⟩
    rw [hn] at hB hR
    have p9 := hB.c9
    have p8 := hB.c8
    have f9 := hB.fz 9
    have f8 := hB.fz 8
    by_cases hlt : 64 ≤ n
    · obtain ⟨bb, bo, rfl⟩ : ∃ bb bo, A = some ⟨bb, bo, none⟩ := by
        rcases hR.parts (by decide) with ⟨h1, _⟩ | ⟨_, b', o', c', e, _⟩
        · omega
        · rw [Value.slice.injEq] at e; exact ⟨b', o', e.1⟩
      have hqb : w.heap.size ≤ bb := hqA _ rfl
      clear hqA
      have AQ := Aside0.mk hqb
      clear hqb
      have hcn : n ≤ c := by obtain ⟨_, A', c', e, h1, _⟩ := hR; rw [Value.slice.injEq] at e; rw [e.2.2]; exact h1
      have k1 : (64 : Int) ≤ (n : Int) := by omega
      have k2 : (64 : Int) ≤ (c : Int) := by omega
      have AN1 := Aside0.mk hn
      have AP8 := Aside0.mk p8
      have AHH := Aside0.mk hH
      have ABB := Aside0.mk hB
      have ARR := Aside0.mk hR
      have AEE := Aside0.mk hE
      have hth := hB.there
      have ATH := Aside0.mk hth
      clear hn hH hB hR hE hth
      by_cases hz : b = 0
      · subst hz
        go_wp2_with (first | (go_at_call 30; refine (first_calls _).mono ?_; rintro e w5 ⟨rfl, hb5⟩; have hB5 := ABB.out.below hb5; have hth5 := hB5.there; have AB5 := Aside0.mk hB5; have hR5 := ARR.out.below hb5; have AR5 := Aside0.mk hR5; clear hB5 hR5) | (refine wpList_store_mid rfl 36 (.tmp 39) (.tmp 37) rfl g 0 (u32s IV).toArray rfl rfl hth5 size8 (all_oneCell_toArray (u32s_one IV)) ?_))
        dsimp only [Act.put]
        have hB5 : Blk w (w5.setCells g 0 (u32s IV)) g IV 0 (some ⟨bb, bo, none⟩) n c := AB5.out.words IV rfl
        have hR5 : RV (w5.setCells g 0 (u32s IV)) (.slice (some ⟨bb, bo, none⟩) n c) n 1 (bs (M.drop (64 * 0))) := AB5.out.bytes AR5.out (by obtain ⟨s1, s2, s3, s4⟩ := setCells_same g (u32s IV) 0 w5; exact ⟨s1, s2, s3, by rw [s4]; exact Nat.le_refl _, fun k _ hk => setCells_far _ _ k (fun e => hk (by rw [e]))⟩)
        have hE5 : Eight IV := IV_eight
        have hH5 : IV = hN M 0 := rfl
        clear AB5 AR5 ABB ARR AHH AEE ATH hth5 hb5 p8 p9 f8 f9
        generalize World.setCells w5 g 0 (u32s IV) = wa at hB5 hR5 ⊢
        generalize hIV : IV = H1 at hB5 hE5 hH5 ⊢
        clear hIV
        obtain ⟨q0, q1, q2, q3, q4, q5, q6, q7, hq, l0, l1, l2, l3, l4, l5, l6, l7⟩ := id hE5
        subst hq
        clear l0 l1 l2 l3 l4 l5 l6 l7
        have hT := RV.head hR5 64 hlt
        have hBl : ((M.drop (64 * 0)).take 64).length = 64 := by rw [List.length_take, List.length_drop]; have := AN1.out; omega
        have B6 := hB5.drew
        have R6 := hR5.drew
        have T6 := hT.drew
        have n6 := B6.c9
        have AE := Aside0.mk hE5
        have AH := Aside0.mk hH5
        clear hT hB5 hR5 hE5 hH5
        refine start_ (n := 9) (S := fun w' => w'.cell? ⟨g, 9, none⟩ = some (.slice (some ⟨bb, bo, none⟩) n c)) (ds := [8]) #[false, false, false, false, false, false, false, false, false] (by kernel_rfl) rfl rfl (n6) (fun hHeld => ?_)
        generalize wa.drew = w6 at B6 R6 T6 n6 hHeld ⊢
        refine pure_ (i := 0) (N := some 40) (v := ?_) (a' := ?_) #[true, false, false, false, false, false, false, false, false] rfl rfl (by kernel_rfl) (fun _ _ _ h => h) (Or.inl ⟨by rfl, ?_⟩) ?_ ?_
        rotate_left
        · intro w'
          go_simp
          with_reducible rfl
        rotate_left
        · simp only [Act.put, List.setIfInBounds_toArray, List.set_cons_zero, List.set_cons_succ, i64_w, i32_w]
          rfl
        refine pure_ (i := 1) (N := some 41) (v := ?_) (a' := ?_) #[true, true, false, false, false, false, false, false, false] rfl rfl (by kernel_rfl) (fun _ _ _ h => h) (Or.inl ⟨by rfl, ?_⟩) ?_ ?_
        rotate_left
        · intro w'
          go_simp
          with_reducible rfl
        rotate_left
        · simp only [Act.put, List.setIfInBounds_toArray, List.set_cons_zero, List.set_cons_succ, i64_w, i32_w]
          rfl
        refine pure_ (i := 2) (N := some 42) (v := ?_) (a' := ?_) #[true, true, true, false, false, false, false, false, false] rfl rfl (by kernel_rfl) (fun _ _ _ h => h) (Or.inl ⟨by rfl, ?_⟩) ?_ ?_
        rotate_left
        · intro w'
          go_simp
          with_reducible rfl
        rotate_left
        · simp only [Act.put, List.setIfInBounds_toArray, List.set_cons_zero, List.set_cons_succ, i64_w, i32_w]
          rfl
        refine pure_ (i := 3) (N := some 43) (v := ?_) (a' := ?_) #[true, true, true, true, false, false, false, false, false] rfl rfl (by kernel_rfl) (fun _ _ _ h => h) (Or.inl ⟨by rfl, ?_⟩) ?_ ?_
        rotate_left
        · intro w'
          go_simp
          with_reducible rfl
        rotate_left
        · simp only [Act.put, List.setIfInBounds_toArray, List.set_cons_zero, List.set_cons_succ, i64_w, i32_w]
          rfl
        refine pure_ (i := 4) (N := some 44) (v := ?_) (a' := ?_) #[true, true, true, true, true, false, false, false, false] rfl rfl (by kernel_rfl) (fun _ _ _ h => h) (Or.inl ⟨by rfl, ?_⟩) ?_ ?_
        rotate_left
        · intro w'
          go_simp
          with_reducible rfl
        rotate_left
        · simp only [Act.put, List.setIfInBounds_toArray, List.set_cons_zero, List.set_cons_succ, i64_w, i32_w]
          rfl
        refine pure_ (i := 5) (N := some 45) (v := ?_) (a' := ?_) #[true, true, true, true, true, true, false, false, false] rfl rfl (by kernel_rfl) (fun _ _ _ h => h) (Or.inl ⟨by rfl, ?_⟩) ?_ ?_
        rotate_left
        · intro w'
          go_simp
          with_reducible rfl
        rotate_left
        · simp only [Act.put, List.setIfInBounds_toArray, List.set_cons_zero, List.set_cons_succ, i64_w, i32_w]
          rfl
        refine take_ (i := 6) (N := some 46) (v := ?_) (a' := ?_) #[true, true, true, true, true, true, true, false, false] rfl rfl (by kernel_rfl) (fun _ _ _ h => h) (Or.inl ⟨by rfl, ?_⟩) hHeld ?_ ?_
        rotate_left
        · intro w' s0
          go_simp
          with_reducible rfl
        rotate_left
        · simp only [Act.put, List.setIfInBounds_toArray, List.set_cons_zero, List.set_cons_succ, i64_w, i32_w]
          rfl
        refine pure_ (i := 7) (N := some 47) (v := ?_) (a' := ?_) #[true, true, true, true, true, true, true, true, false] rfl rfl (by kernel_rfl) (fun _ _ _ h => h) (Or.inl ⟨by rfl, ?_⟩) ?_ ?_
        rotate_left
        · intro w'
          go_simp
          with_reducible rfl
        rotate_left
        · simp only [Act.put, List.setIfInBounds_toArray, List.set_cons_zero, List.set_cons_succ, i64_w, i32_w]
          rfl
        refine last_ (i := 8) (N := some 48) #[true, true, true, true, true, true, true, true, true] rfl rfl (by kernel_rfl) (by decide) (fun K hK => ?_)
        refine goes_ Try.func31 (by kernel_rfl) rfl #[.pointer (some ⟨g, 0, none⟩), .slice (some ⟨bb, bo, none⟩) 64 c] (by rfl) rfl rfl (by simp only [List.map_toArray, List.map_cons, List.map_nil]; rfl) ?_
        with_reducible refine (take_calls g bb bo c _ _ hBl T6 _ _ q0 q1 q2 q3 q4 q5 q6 q7 AE.out B6.heap).mono ?_
        rintro ee w7 ⟨rfl, hG7, hg7⟩
        refine ⟨_, rfl, ?_⟩
        refine hK.out _ _ ?_
        clear hK K
        refine norm_ (a' := ?_) ?_ ?_
        rotate_left
        · show Act.put _ (some 48) _ = _
          simp only [Act.put, List.setIfInBounds_toArray, List.set_cons_zero, List.set_cons_succ, i64_w, i32_w]
          rfl
        refine done_ (by kernel_rfl) ?_
        have B7 := B6.after (Eight.len (nextH_eight _ _ AE.out)) hG7 hg7
        have R7 := B6.bytes R6 hg7
        have E7 := nextH_eight _ ((M.drop (64 * 0)).take 64) AE.out
        have H7 : nextH [q0, q1, q2, q3, q4, q5, q6, q7] ((M.drop (64 * 0)).take 64) = hN M (0 + 1) := by rw [AH.out]; rfl
        clear hG7 hg7 B6 R6 T6 n6 AE AH hHeld
        generalize nextH [q0, q1, q2, q3, q4, q5, q6, q7] ((M.drop (64 * 0)).take 64) = H8 at B7 E7 H7
        have p8 := B7.c8
        have f8 := B7.fz 8
        have f9 := B7.fz 9
        have p9 := B7.c9
        have hw8 := wrap_succ 0 (by have := AN1.out; omega)
        have A7 := Aside0.mk B7
        have AR7 := Aside0.mk R7
        have AE7 := Aside0.mk E7
        have AH7 := Aside0.mk H7
        clear B7 R7 E7 H7
        go_wp2_with fail
        have hnn : M.length - 64 * (0 + 1) = n - 64 := by have := AN1.out; omega
        have hG9 : w7.grownBy ((w7.setCell ⟨g, 8, none⟩ (.int .u64 ((0 + 1 : Nat) : Int))).setCell ⟨g, 9, none⟩ (.slice (if c = 64 then some ⟨bb, bo, none⟩ else some ⟨bb, bo + 64, none⟩) (n - 64) (c - 64))) (some g) := grown_trans (grown_setCell _ _ _ _) (grown_setCell _ _ _ _)
        have hRz := A7.out.bytes (RV.tail2 AR7.out hlt hcn) hG9
        have hBz := (A7.out.set8 (0 + 1)).set9 (if c = 64 then some ⟨bb, bo, none⟩ else some ⟨bb, bo + 64, none⟩) (n - 64) (c - 64)
        refine ⟨⟨0 + 1, H8, _, c - 64, by rw [hnn]; exact hBz, AE7.out, fun _ => AH7.out, ?_, by have := AN1.out; omega, fun a e => by split at e <;> (cases e; exact AQ.out)⟩, ?_⟩
        · rw [hnn, show 64 * (0 + 1) = 64 * 0 + 64 by omega, ← List.drop_drop]
          exact hRz
        · have e1 := hBz.c8
          have e2 := AP8.out
          have := AN1.out
          refine Nat.lt_of_le_of_lt (Nat.le_of_eq (congrArg (fun z => M.length / 64 - (intOf (Option.getD z undef)).toNat) e1)) (Nat.lt_of_lt_of_le ?_ (Nat.le_of_eq (congrArg (fun z => M.length / 64 - (intOf (Option.getD z undef)).toNat) e2.symm)))
          show M.length / 64 - ((0 + 1 : Nat) : Int).toNat < M.length / 64 - ((0 : Nat) : Int).toNat
          omega
      · have hz2 : ¬ ((b : Int) = 0) := by omega
        go_wp2_with fail
        have hB5 := ABB.out
        have hR5 := ARR.out
        have hE5 := AEE.out
        have hH5 := AHH.out (by omega)
        clear ABB ARR AHH AEE ATH p8 p9 f8 f9
        obtain ⟨q0, q1, q2, q3, q4, q5, q6, q7, hq, l0, l1, l2, l3, l4, l5, l6, l7⟩ := id hE5
        subst hq
        clear l0 l1 l2 l3 l4 l5 l6 l7
        have hT := RV.head hR5 64 hlt
        have hBl : ((M.drop (64 * b)).take 64).length = 64 := by rw [List.length_take, List.length_drop]; have := AN1.out; omega
        have B6 := hB5.drew
        have R6 := hR5.drew
        have T6 := hT.drew
        have n6 := B6.c9
        have AE := Aside0.mk hE5
        have AH := Aside0.mk hH5
        clear hT hB5 hR5 hE5 hH5
        refine start_ (n := 9) (S := fun w' => w'.cell? ⟨g, 9, none⟩ = some (.slice (some ⟨bb, bo, none⟩) n c)) (ds := [8]) #[false, false, false, false, false, false, false, false, false] (by kernel_rfl) rfl rfl (n6) (fun hHeld => ?_)
        generalize wr.drew = w6 at B6 R6 T6 n6 hHeld ⊢
        refine pure_ (i := 0) (N := some 40) (v := ?_) (a' := ?_) #[true, false, false, false, false, false, false, false, false] rfl rfl (by kernel_rfl) (fun _ _ _ h => h) (Or.inl ⟨by rfl, ?_⟩) ?_ ?_
        rotate_left
        · intro w'
          go_simp
          with_reducible rfl
        rotate_left
        · simp only [Act.put, List.setIfInBounds_toArray, List.set_cons_zero, List.set_cons_succ, i64_w, i32_w]
          rfl
        refine pure_ (i := 1) (N := some 41) (v := ?_) (a' := ?_) #[true, true, false, false, false, false, false, false, false] rfl rfl (by kernel_rfl) (fun _ _ _ h => h) (Or.inl ⟨by rfl, ?_⟩) ?_ ?_
        rotate_left
        · intro w'
          go_simp
          with_reducible rfl
        rotate_left
        · simp only [Act.put, List.setIfInBounds_toArray, List.set_cons_zero, List.set_cons_succ, i64_w, i32_w]
          rfl
        refine pure_ (i := 2) (N := some 42) (v := ?_) (a' := ?_) #[true, true, true, false, false, false, false, false, false] rfl rfl (by kernel_rfl) (fun _ _ _ h => h) (Or.inl ⟨by rfl, ?_⟩) ?_ ?_
        rotate_left
        · intro w'
          go_simp
          with_reducible rfl
        rotate_left
        · simp only [Act.put, List.setIfInBounds_toArray, List.set_cons_zero, List.set_cons_succ, i64_w, i32_w]
          rfl
        refine pure_ (i := 3) (N := some 43) (v := ?_) (a' := ?_) #[true, true, true, true, false, false, false, false, false] rfl rfl (by kernel_rfl) (fun _ _ _ h => h) (Or.inl ⟨by rfl, ?_⟩) ?_ ?_
        rotate_left
        · intro w'
          go_simp
          with_reducible rfl
        rotate_left
        · simp only [Act.put, List.setIfInBounds_toArray, List.set_cons_zero, List.set_cons_succ, i64_w, i32_w]
          rfl
        refine pure_ (i := 4) (N := some 44) (v := ?_) (a' := ?_) #[true, true, true, true, true, false, false, false, false] rfl rfl (by kernel_rfl) (fun _ _ _ h => h) (Or.inl ⟨by rfl, ?_⟩) ?_ ?_
        rotate_left
        · intro w'
          go_simp
          with_reducible rfl
        rotate_left
        · simp only [Act.put, List.setIfInBounds_toArray, List.set_cons_zero, List.set_cons_succ, i64_w, i32_w]
          rfl
        refine pure_ (i := 5) (N := some 45) (v := ?_) (a' := ?_) #[true, true, true, true, true, true, false, false, false] rfl rfl (by kernel_rfl) (fun _ _ _ h => h) (Or.inl ⟨by rfl, ?_⟩) ?_ ?_
        rotate_left
        · intro w'
          go_simp
          with_reducible rfl
        rotate_left
        · simp only [Act.put, List.setIfInBounds_toArray, List.set_cons_zero, List.set_cons_succ, i64_w, i32_w]
          rfl
        refine take_ (i := 6) (N := some 46) (v := ?_) (a' := ?_) #[true, true, true, true, true, true, true, false, false] rfl rfl (by kernel_rfl) (fun _ _ _ h => h) (Or.inl ⟨by rfl, ?_⟩) hHeld ?_ ?_
        rotate_left
        · intro w' s0
          go_simp
          with_reducible rfl
        rotate_left
        · simp only [Act.put, List.setIfInBounds_toArray, List.set_cons_zero, List.set_cons_succ, i64_w, i32_w]
          rfl
        refine pure_ (i := 7) (N := some 47) (v := ?_) (a' := ?_) #[true, true, true, true, true, true, true, true, false] rfl rfl (by kernel_rfl) (fun _ _ _ h => h) (Or.inl ⟨by rfl, ?_⟩) ?_ ?_
        rotate_left
        · intro w'
          go_simp
          with_reducible rfl
        rotate_left
        · simp only [Act.put, List.setIfInBounds_toArray, List.set_cons_zero, List.set_cons_succ, i64_w, i32_w]
          rfl
        refine last_ (i := 8) (N := some 48) #[true, true, true, true, true, true, true, true, true] rfl rfl (by kernel_rfl) (by decide) (fun K hK => ?_)
        refine goes_ Try.func31 (by kernel_rfl) rfl #[.pointer (some ⟨g, 0, none⟩), .slice (some ⟨bb, bo, none⟩) 64 c] (by rfl) rfl rfl (by simp only [List.map_toArray, List.map_cons, List.map_nil]; rfl) ?_
        with_reducible refine (take_calls g bb bo c _ _ hBl T6 _ _ q0 q1 q2 q3 q4 q5 q6 q7 AE.out B6.heap).mono ?_
        rintro ee w7 ⟨rfl, hG7, hg7⟩
        refine ⟨_, rfl, ?_⟩
        refine hK.out _ _ ?_
        clear hK K
        refine norm_ (a' := ?_) ?_ ?_
        rotate_left
        · show Act.put _ (some 48) _ = _
          simp only [Act.put, List.setIfInBounds_toArray, List.set_cons_zero, List.set_cons_succ, i64_w, i32_w]
          rfl
        refine done_ (by kernel_rfl) ?_
        have B7 := B6.after (Eight.len (nextH_eight _ _ AE.out)) hG7 hg7
        have R7 := B6.bytes R6 hg7
        have E7 := nextH_eight _ ((M.drop (64 * b)).take 64) AE.out
        have H7 : nextH [q0, q1, q2, q3, q4, q5, q6, q7] ((M.drop (64 * b)).take 64) = hN M (b + 1) := by rw [AH.out]; rfl
        clear hG7 hg7 B6 R6 T6 n6 AE AH hHeld
        generalize nextH [q0, q1, q2, q3, q4, q5, q6, q7] ((M.drop (64 * b)).take 64) = H8 at B7 E7 H7
        have p8 := B7.c8
        have f8 := B7.fz 8
        have f9 := B7.fz 9
        have p9 := B7.c9
        have hw8 := wrap_succ b (by have := AN1.out; omega)
        have A7 := Aside0.mk B7
        have AR7 := Aside0.mk R7
        have AE7 := Aside0.mk E7
        have AH7 := Aside0.mk H7
        clear B7 R7 E7 H7
        go_wp2_with fail
        have hnn : M.length - 64 * (b + 1) = n - 64 := by have := AN1.out; omega
        have hG9 : w7.grownBy ((w7.setCell ⟨g, 8, none⟩ (.int .u64 ((b + 1 : Nat) : Int))).setCell ⟨g, 9, none⟩ (.slice (if c = 64 then some ⟨bb, bo, none⟩ else some ⟨bb, bo + 64, none⟩) (n - 64) (c - 64))) (some g) := grown_trans (grown_setCell _ _ _ _) (grown_setCell _ _ _ _)
        have hRz := A7.out.bytes (RV.tail2 AR7.out hlt hcn) hG9
        have hBz := (A7.out.set8 (b + 1)).set9 (if c = 64 then some ⟨bb, bo, none⟩ else some ⟨bb, bo + 64, none⟩) (n - 64) (c - 64)
        refine ⟨⟨b + 1, H8, _, c - 64, by rw [hnn]; exact hBz, AE7.out, fun _ => AH7.out, ?_, by have := AN1.out; omega, fun a e => by split at e <;> (cases e; exact AQ.out)⟩, ?_⟩
        · rw [hnn, show 64 * (b + 1) = 64 * b + 64 by omega, ← List.drop_drop]
          exact hRz
        · have e1 := hBz.c8
          have e2 := AP8.out
          have := AN1.out
          refine Nat.lt_of_le_of_lt (Nat.le_of_eq (congrArg (fun z => M.length / 64 - (intOf (Option.getD z undef)).toNat) e1)) (Nat.lt_of_lt_of_le ?_ (Nat.le_of_eq (congrArg (fun z => M.length / 64 - (intOf (Option.getD z undef)).toNat) e2.symm)))
          show M.length / 64 - ((b + 1 : Nat) : Int).toNat < M.length / 64 - ((b : Nat) : Int).toNat
          omega
    · have hbn : b = M.length / 64 := by omega
      have hS : HSP (fun r => w.heap.size ≤ r) w wr g M b := by rw [← hn] at hB hR; exact ⟨H, A, c, hB, hE, hH, hR, hb64, hqA⟩
      have AS := Aside0.mk hS
      have ABN := Aside0.mk hbn
      have k1 : ¬ ((64 : Int) ≤ (n : Int)) := by omega
      clear hS hbn hB hR hE hH hb64 hn p8 f8 f9
      go_wp2_with fail
      go_end0
      rw [← ABN.out]
      exact ⟨rfl, AS.out⟩

end Go.Proofs.Ythhandkckbnafaa
