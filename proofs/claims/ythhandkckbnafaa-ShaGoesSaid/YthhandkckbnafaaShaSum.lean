/-
  The walks of (*Hash).Sum and of sha.Sum: what they answer, 'digest M'.
-/
import Derived.Test.YthhandkckbnafaaShaHash2
import Derived.Lib.SlBuf
set_option linter.unusedVariables false
set_option linter.unusedSimpArgs false
namespace Go.Proofs.Ythhandkckbnafaa
open Go.RowKit Go.Proofs.YthhandkckbnafaaZ.ZA Go.Proofs.YthhandkckbnafaaW.PrintWords Go.Proofs.YthhandkckbnafaaW.PrintLast Go.Proofs.YthhandkckbnafaaW.PrintMore
theorem be8_length (x : Nat) : (be8 x).length = 8 := rfl
def padN (n : Nat) : Nat := (119 - n % 64) % 64
/-- The message with what is put behind it. -/
def padM (M : List UInt8) : List UInt8 := M ++ [[128], List.replicate (padN M.length) 0, be8 (8 * M.length)].flatten
theorem padM_length (M : List UInt8) : (padM M).length = M.length + (9 + padN M.length) := by
  simp [padM, be8_length]; omega
theorem padM_mod (M : List UInt8) : 64 * ((padM M).length / 64) = (padM M).length := by
  rw [padM_length]; unfold padN; omega
/-- The last words. -/
def digW (M : List UInt8) : List Nat := hN (padM M) ((padM M).length / 64)
def be4 (x : Nat) : List UInt8 := (be8 x).drop 4
def digest (M : List UInt8) : List UInt8 := (digW M).flatMap be4
theorem be4_length (x : Nat) : (be4 x).length = 4 := rfl
theorem flat4_length (X : List Nat) : (X.flatMap be4).length = 4 * X.length := by
  induction X with
  | nil => rfl
  | cons x X ih => rw [List.flatMap_cons, List.length_append, be4_length, ih, List.length_cons]; omega
theorem digest_length (M : List UInt8) : (digest M).length = 32 := by
  unfold digest
  rw [flat4_length]
  show 4 * (hN _ _).length = 32
  rw [Eight.len (hN_eight _ _)]
theorem made_rv (w : World) (z : Nat) (hz : z ≤ maxLen) : RV (w.alloc (.cells (madeCells #[.int .u8 0] z) 5)) (.slice (some ⟨w.heap.size, 0, none⟩) z z) z 1 (bs (List.replicate z 0)) := by
  have h := RV_own (own_made w w.heap.size 5 .u8 z (Nat.le_refl _) hz)
  have e : nums .u8 (List.replicate z 0) = bs (List.replicate z 0) := by simp [nums, bs]
  rw [e] at h
  exact h
theorem high_rv {w : World} {base : Nat} {v : Value} {x : Nat} (h : w.ownsRow base 5 1 v (be8 x).length (bs (be8 x))) : RV w v 8 1 (bs (be8 x)) := RV_own h
theorem rbs3 {w : World} {v1 v2 v3 : Value} {n1 n2 n3 : Nat} {x1 x2 x3 : List UInt8} (h1 : RV w v1 n1 1 (bs x1)) (h2 : RV w v2 n2 1 (bs x2)) (h3 : RV w v3 n3 1 (bs x3)) {e : TypeId} : RBs (w.alloc (.cells #[v1, v2, v3] e)) (.slice (some ⟨w.heap.size, 0, none⟩) 3 3) [x1, x2, x3] := by
  have l1 := h1.len
  have l2 := h2.len
  have l3 := h3.len
  rw [bs_length, Nat.mul_one] at l1 l2 l3
  subst l1; subst l2; subst l3
  refine ⟨[v1, v2, v3], RV_new w [v1, v2, v3] e 3 1 (0, 0) rfl (by decide), fun i v x hv hx => ?_⟩
  match i with
  | 0 => simp at hv hx; subst hv; subst hx; exact h1.alloc _
  | 1 => simp at hv hx; subst hv; subst hx; exact h2.alloc _
  | 2 => simp at hv hx; subst hv; subst hx; exact h3.alloc _
  | i + 3 => simp at hv
def z32 : Array Value := (bs (List.replicate 32 0)).toArray
/-- On the way to a sum: the hash, the place of the answer, all else below. -/
def Rd (w W : World) (gx : Nat) (M : List UInt8) (b : Nat) : Prop := HS W W gx M b ∧ w.heap.size < gx ∧ W.heap[w.heap.size]? = some (.cells z32 26 (0, 0)) ∧ Below w.heap.size w W
theorem Rd.below {w W W' : World} {gx : Nat} {M : List UInt8} {b : Nat} (h : Rd w W gx M b) (hb : Below W.heap.size W W') : Rd w W' gx M b := ⟨(h.1.below hb).now, h.2.1, blk_below h.2.2.1 hb, h.2.2.2.trans (hb.mono h.2.2.2.size)⟩
theorem index_w8 (A : Array Value) (k : Nat) (v : Int) (hk : k < 8) (hA : A[k]? = some (.int .u32 v)) (w : World) : Sem.run Try.prog (Instr.index 36 (.agg A) (.int .i64 (k : Int))) w = .ok (.int .u32 v) w := by
  have h0 : (0 : Int) ≤ (k : Int) := by omega
  have h1 : (k : Int) < 8 := by omega
  unfold Instr.index
  go_simp

def rowS (X : List Nat) (k : Nat) : Array Value := (bs ((X.take k).flatMap be4 ++ List.replicate (32 - 4 * k) 0)).toArray
/-- The answer as it is put down, four bytes a word. -/
def KS (w W : World) (gs : Nat) (X : List Nat) (k : Nat) : Prop := W.heap[gs]? = some (.cells (rowS X k) 26 (0, 0)) ∧ W.heap[w.heap.size]? = some (.cells z32 26 (0, 0)) ∧ Below w.heap.size w W ∧ w.heap.size < gs ∧ X.length = 8
theorem KS.below {w W W' : World} {gs : Nat} {X : List Nat} {k : Nat} (h : KS w W gs X k) (hb : Below W.heap.size W W') : KS w W' gs X k := ⟨blk_below h.1 hb, blk_below h.2.1 hb, h.2.2.1.trans (hb.mono h.2.2.1.size), h.2.2.2.1, h.2.2.2.2⟩
theorem KS.drew {w W : World} {gs : Nat} {X : List Nat} {k : Nat} (h : KS w W gs X k) : KS w W.drew gs X k := h.below (Below.refl _ _).drew
theorem RV.some8 {w : World} {A : Option Addr} {c : Nat} {xs : List Value} (h : RV w (.slice A 8 c) 8 1 xs) : ∃ b o, A = some ⟨b, o, none⟩ ∧ 8 ≤ c := by
  obtain ⟨hl, A', c', e, h1, _, h3⟩ := h
  rw [Value.slice.injEq] at e
  obtain ⟨rfl, -, rfl⟩ := e
  obtain ⟨b, o, rfl, _⟩ := h3 (by rintro rfl; simp at hl)
  exact ⟨b, o, rfl, h1⟩
theorem if_wanted {c : Prop} [Decidable c] {A B : Prop} (hc : c) (h : A) : if c then A else B := by rw [if_pos hc]; exact h
theorem take_succ4 (X : List Nat) (k y : Nat) (hk : k < X.length) (hy : X.getD k 0 = y) : (X.take (k + 1)).flatMap be4 = (X.take k).flatMap be4 ++ be4 y := by
  rw [List.take_succ_eq_append_getElem hk, List.flatMap_append]
  rw [List.getD, List.getElem?_eq_getElem hk] at hy
  rw [show X[k] = y from hy]
  simp
theorem KS.copy {w W : World} {gs : Nat} {X : List Nat} {k y b o c : Nat} (h : KS w W gs X k) (hk : k < 8) (hy : X.getD k 0 = y) (hr : RV W (.slice (some ⟨b, o, none⟩) 8 c) 8 1 (bs (be8 y))) (ty : TypeId) :
    (Builtin.copy_ #[28, 28] ty #[.slice (some ⟨gs, 4 * k, none⟩) (32 - 4 * k) (32 - 4 * k), .slice (some ⟨b, o + 4, none⟩) 4 (c - 4)]).run Try.prog W = .ok (goInt 4) (W.setCells gs (4 * k) (bs (be4 y))) ∧ KS w (W.setCells gs (4 * k) (bs (be4 y))) gs X (k + 1) := by
  obtain ⟨h1, h2, h3, h4, h5⟩ := h
  have hfl : ((X.take k).flatMap be4).length = 4 * k := by rw [flat4_length, List.length_take]; omega
  have hsz : (rowS X k).size = 32 := by unfold rowS; rw [List.size_toArray, bs_length, List.length_append, hfl, List.length_replicate]; omega
  have hbl : (bs (be4 y)).length = 4 := by rw [bs_length, be4_length]
  refine ⟨?_, ?_⟩
  · have := run_copy_cells (P := Try.prog) W 28 28 ty 5 gs (4 * k) (32 - 4 * k) (32 - 4 * k) ⟨b, o + 4, none⟩ 4 (c - 4) (bs (be4 y)) Try.underlying28 (by kernel_rfl) (by rw [hbl]; exact (Nat.min_eq_left (by omega)).symm)
      (fun j v hj => by
        have hj4 : j < 4 := by rw [← hbl]; exact (List.getElem?_eq_some_iff.1 hj).1
        obtain ⟨_, A', c', e, _, _, hc⟩ := hr
        rw [Value.slice.injEq] at e
        obtain ⟨b', o', e', hc⟩ := hc (by simp [bs, be8])
        rw [← e.1, Option.some.injEq, Addr.mk.injEq] at e'
        obtain ⟨rfl, rfl, -⟩ := e'
        have h8 := hc (4 + j) v (by unfold be4 at hj; rw [bs_drop, List.getElem?_drop] at hj; exact hj)
        rw [add_plain, Nat.add_assoc]; exact h8)
      (fun j hj => by rw [blk_cell h1, Array.getElem?_eq_getElem (by rw [hsz]; omega)]; rfl) (fun j hj => blk_frozen h1 _) (bs_one _)
    rw [hbl] at this
    exact this
  · obtain ⟨cur', g1, g2, g3⟩ := setCells_row (bs (be4 y)) (4 * k) W _ h1 (by rw [hsz, hbl]; omega)
    obtain ⟨s1, s2, s3, s4⟩ := setCells_same gs (bs (be4 y)) (4 * k) W
    refine ⟨?_, ?_, ?_, h4, h5⟩
    · rw [g1]
      congr 2
      apply Array.ext'
      rw [g3, hbl]
      unfold rowS
      rw [take_succ4 X k y (by omega) hy]
      simp only [bs_append, List.append_assoc]
      rw [List.take_left' (by rw [bs_length, hfl]), List.drop_append, List.drop_eq_nil_of_le (by rw [bs_length, hfl]; omega), List.nil_append, bs_length, hfl]
      rw [← bs_drop, List.drop_replicate]
      rw [show 32 - 4 * k - (4 * k + 4 - 4 * k) = 32 - 4 * (k + 1) by omega]
    · rw [setCells_far _ _ _ (by omega)]; exact h2
    · refine h3.trans ⟨s1, s2, s3, by rw [s4]; exact Nat.le_refl _, fun i hi => setCells_far _ _ _ (by omega)⟩
theorem digW_lt (M : List UInt8) (k : Nat) : (digW M).getD k 0 < 4294967296 := by
  obtain ⟨a, b, c, d, e, f, g, h, hX, h1, h2, h3, h4, h5, h6, h7, h8⟩ := hN_eight (padM M) ((padM M).length / 64)
  unfold digW
  rw [hX]
  match k with
  | 0 => exact h1
  | 1 => exact h2
  | 2 => exact h3
  | 3 => exact h4
  | 4 => exact h5
  | 5 => exact h6
  | 6 => exact h7
  | 7 => exact h8
  | k + 8 => exact Nat.zero_lt_of_lt h1
theorem size32 : (Try.prog.info? 26).map (·.size) = some 32 := by kernel_rfl

set_option maxHeartbeats 4000000 in
set_option maxRecDepth 100000 in
theorem hsum_calls (g : Nat) (M : List UInt8) (w : World) (h : HS w w g M (M.length / 64)) (hl : M.length ≤ 35184372088832) : Calls Try.prog 19 #[.pointer (some ⟨g, 0, none⟩)] w fun e w' => e = .returned (.agg (bs (digest M)).toArray) ∧ Below w.heap.size w w' := by
  go_enter Try.func19, Try.ntmps19
  go_wp2_with (first | (go_at_call 17; refine (new_calls _).mono ?_; rintro e w1 ⟨rfl, hN1, hb1⟩; have hr1 := blk_below (heap_alloc_new w _) hb1; have hbw1 : Below w.heap.size w w1 := ((Below.refl w.heap.size w).alloc (Nat.le_refl _) _).trans (hb1.mono (by simp)); have hlt1 : w.heap.size < w1.heap.size := blk_lt hr1; have AR1 := Aside0.mk (p := w1.heap[w.heap.size]? = some (.cells z32 26 (0, 0))) hr1; clear hr1) | (go_at_call 20; refine (copy_calls g M (M.length / 64) _ (h.below hbw1).now (by omega)).mono ?_; rintro e w2 ⟨rfl, hS2, hb2⟩; have hRd2 : Rd w w2 w1.heap.size M (M.length / 64) := ⟨hS2, hlt1, blk_below AR1.out hb2, hbw1.trans (hb2.mono hbw1.size)⟩) | (go_at_call 21; refine (len_calls _ M _ _ hRd2.1 (by omega)).mono ?_; rintro e w3 ⟨rfl, hb3⟩; have hRd := hRd2.below hb3; clear hRd2 hN1 hb1 hb2 hb3 hS2 hbw1 AR1))
  obtain ⟨gx, hgx⟩ : ∃ x, w1.heap.size = x := ⟨_, rfl⟩
  rw [hgx] at hRd ⊢
  clear hgx hlt1
  obtain ⟨L, hL⟩ : ∃ L, M.length = L := ⟨_, rfl⟩
  obtain ⟨b, hb⟩ : ∃ b, M.length / 64 = b := ⟨_, rfl⟩
  obtain ⟨z, hz⟩ : ∃ z, padN M.length = z := ⟨_, rfl⟩
  have hlen : (M ++ [[128], List.replicate z 0, be8 (8 * L)].flatten).length ≤ 70368744177664 := by rw [← hz, ← hL]; have := padM_length M; unfold padM at this; rw [this]; unfold padN; omega
  have hpad : M ++ [[128], List.replicate z 0, be8 (8 * L)].flatten = padM M := by rw [← hz, ← hL]; rfl
  have hRd5 := hRd.below (Below.refl _ _).drew
  rw [hb] at hRd5
  obtain ⟨H, A, c, hBk, hE, hH, hR, hb64⟩ := hRd5.1
  obtain ⟨r, hr⟩ : ∃ r, M.length - 64 * b = r := ⟨_, rfl⟩
  rw [hr] at hBk hR
  have hgl := blk_lt hBk.1
  have p9 := hBk.c9
  have hrz : (119 - (r : Int)).tmod 64 = (z : Int) := by
    rw [Int.tmod_eq_emod_of_nonneg (by omega)]; unfold padN at hz; omega
  have hrw : wrap64 (119 - (r : Int)) = 119 - (r : Int) := by unfold wrap64; omega
  have h8 : IntKind.u64.wrap (8 * (L : Int)) = ((8 * L : Nat) : Int) := by have := wrap_u64n (8 * L) (by omega); rw [← this]; simp
  have hzm : z ≤ maxLen := by unfold padN at hz; unfold maxLen; omega
  have hmk := print_make (P := Try.prog) 28 5 .u8 1 Try.underlying28 info_u8 (by decide) z (by unfold padN at hz; omega)
  have hSx := hRd5.1
  have AR := Aside0.mk hRd5
  have AP := Aside0.mk hpad
  rw [hL]
  have hn3 : ([[128], List.replicate z 0, be8 (8 * L)] : List (List UInt8)).length ≤ 1000000000 := by simp
  clear hBk hE hH hR hr hz hL hb hpad hRd hRd5 hb64
  refine start_ (n := 15) (S := fun w' => w'.cell? ⟨gx, 9, none⟩ = some (.slice A r c)) (ds := [14]) #[false, false, false, false, false, false, false, false, false, false, false, false, false, false, false] (by kernel_rfl) rfl rfl (p9) (fun hHeld => ?_)
  generalize World.drew _ = w5 at AR hSx p9 hgl hHeld ⊢
  have BL := Below.refl w5.heap.size w5
  refine pure_ (i := 0) (N := some 15) (v := ?_) (a' := ?_) #[true, false, false, false, false, false, false, false, false, false, false, false, false, false, false] rfl rfl (by kernel_rfl) (fun _ _ _ h => h) (Or.inl ⟨by rfl, ?_⟩) ?_ ?_
  rotate_left
  · intro w'
    go_simp
    with_reducible rfl
  rotate_left
  · simp only [Act.put, List.setIfInBounds_toArray, List.set_cons_zero, List.set_cons_succ, i64_w, i32_w]
    rfl
  refine pure_ (i := 2) (N := some 17) (v := ?_) (a' := ?_) #[true, false, true, false, false, false, false, false, false, false, false, false, false, false, false] rfl rfl (by kernel_rfl) (fun _ _ _ h => h) (Or.inl ⟨by rfl, ?_⟩) ?_ ?_
  rotate_left
  · intro w'
    go_simp
    with_reducible rfl
  rotate_left
  · simp only [Act.put, List.setIfInBounds_toArray, List.set_cons_zero, List.set_cons_succ, i64_w, i32_w]
    rfl
  refine pure_ (i := 3) (N := some 18) (v := ?_) (a' := ?_) #[true, false, true, true, false, false, false, false, false, false, false, false, false, false, false] rfl rfl (by kernel_rfl) (fun _ _ _ h => h) (Or.inl ⟨by rfl, ?_⟩) ?_ ?_
  rotate_left
  · intro w'
    go_simp
    with_reducible rfl
  rotate_left
  · simp only [Act.put, List.setIfInBounds_toArray, List.set_cons_zero, List.set_cons_succ, i64_w, i32_w]
    rfl
  refine pure_ (i := 4) (N := some 19) (v := ?_) (a' := ?_) #[true, false, true, true, true, false, false, false, false, false, false, false, false, false, false] rfl rfl (by kernel_rfl) (fun _ _ _ h => h) (Or.inl ⟨by rfl, ?_⟩) ?_ ?_
  rotate_left
  · intro w'
    go_simp
    with_reducible rfl
  rotate_left
  · simp only [Act.put, List.setIfInBounds_toArray, List.set_cons_zero, List.set_cons_succ, i64_w, i32_w]
    rfl
  refine pure_ (i := 10) (N := some 25) (v := ?_) (a' := ?_) #[true, false, true, true, true, false, false, false, false, false, true, false, false, false, false] rfl rfl (by kernel_rfl) (fun _ _ _ h => h) (Or.inl ⟨by rfl, ?_⟩) ?_ ?_
  rotate_left
  · intro w'
    go_simp
    with_reducible rfl
  rotate_left
  · simp only [Act.put, List.setIfInBounds_toArray, List.set_cons_zero, List.set_cons_succ, i64_w, i32_w]
    rfl
  refine pure_ (i := 11) (N := some 26) (v := ?_) (a' := ?_) #[true, false, true, true, true, false, false, false, false, false, true, true, false, false, false] rfl rfl (by kernel_rfl) (fun _ _ _ h => h) (Or.inl ⟨by rfl, ?_⟩) ?_ ?_
  rotate_left
  · intro w'
    go_simp
    with_reducible rfl
  rotate_left
  · simp only [Act.put, List.setIfInBounds_toArray, List.set_cons_zero, List.set_cons_succ, i64_w, i32_w]
    rfl
  refine take_ (i := 5) (N := some 20) (v := ?_) (a' := ?_) #[true, false, true, true, true, true, false, false, false, false, true, true, false, false, false] rfl rfl (by kernel_rfl) (fun _ _ _ h => h) (Or.inl ⟨by rfl, ?_⟩) hHeld ?_ ?_
  rotate_left
  · intro w' s0
    go_simp
    with_reducible rfl
  rotate_left
  · simp only [Act.put, List.setIfInBounds_toArray, List.set_cons_zero, List.set_cons_succ, i64_w, i32_w]
    rfl
  refine pure_ (i := 6) (N := some 21) (v := ?_) (a' := ?_) #[true, false, true, true, true, true, true, false, false, false, true, true, false, false, false] rfl rfl (by kernel_rfl) (fun _ _ _ h => h) (Or.inl ⟨by rfl, ?_⟩) ?_ ?_
  rotate_left
  · intro w'
    go_simp
    with_reducible rfl
  rotate_left
  · simp only [Act.put, List.setIfInBounds_toArray, List.set_cons_zero, List.set_cons_succ, i64_w, i32_w]
    rfl
  refine pure_ (i := 7) (N := some 22) (v := ?_) (a' := ?_) #[true, false, true, true, true, true, true, true, false, false, true, true, false, false, false] rfl rfl (by kernel_rfl) (fun _ _ _ h => h) (Or.inl ⟨by rfl, ?_⟩) ?_ ?_
  rotate_left
  · intro w'
    go_simp
    with_reducible rfl
  rotate_left
  · simp only [Act.put, List.setIfInBounds_toArray, List.set_cons_zero, List.set_cons_succ, i64_w, i32_w]
    rfl
  refine pure_ (i := 8) (N := some 23) (v := ?_) (a' := ?_) #[true, false, true, true, true, true, true, true, true, false, true, true, false, false, false] rfl rfl (by kernel_rfl) (fun _ _ _ h => h) (Or.inl ⟨by rfl, ?_⟩) ?_ ?_
  rotate_left
  · intro w'
    go_simp
    with_reducible rfl
  rotate_left
  · simp only [Act.put, List.setIfInBounds_toArray, List.set_cons_zero, List.set_cons_succ, i64_w, i32_w]
    rfl
  refine join_ (σ := Nat × Nat × Option Addr × Nat) 2 #[true, true, true, true, true, true, true, true, true, true, true, true, true, false, false] (fun s_ => [(16, .slice (some ⟨s_.1, 0, none⟩) 1 1), (24, .slice (some ⟨s_.2.1, 0, none⟩) z z), (27, .slice s_.2.2.1 8 s_.2.2.2)]) (fun s_ w' => (w'.cell? ⟨gx, 9, none⟩ = some (.slice A r c)) ∧ Below w5.heap.size w5 w' ∧ RV w' (.slice (some ⟨s_.1, 0, none⟩) 1 1) 1 1 (bs [128]) ∧ RV w' (.slice (some ⟨s_.2.1, 0, none⟩) z z) z 1 (bs (List.replicate z 0)) ∧ RV w' (.slice s_.2.2.1 8 s_.2.2.2) 8 1 (bs (be8 (8 * L)))) ?_ ?_
  rotate_left
  · intro hCont
    refine three_ (i := 1) (j := 9) (k := 12) (Ni := some 16) (Nj := some 24) (Nk := some 27) #[true, true, true, true, true, true, true, true, true, false, true, true, false, false, false] #[true, false, true, true, true, true, true, true, true, true, true, true, false, false, false] #[true, false, true, true, true, true, true, true, true, false, true, true, true, false, false] rfl rfl rfl rfl rfl rfl (by kernel_rfl) (by decide) (by decide) (by decide) (fun K hK => ?_) (fun K hK => ?_) (fun K hK => ?_)
    · skip
      refine value_ (w1 := ?_) (v := ?_) (by rfl) rfl ?_ ?_
      rotate_left 2
      · go_simp
        constructor
        · rfl
        · rfl
      have BL_1 := Below.alloc BL BL.size (.cells #[.int .u8 128] 5)
      have R1_w5_1 : RV (World.alloc w5 (.cells #[.int .u8 128] 5)) (.slice (some ⟨w5.heap.size, 0, none⟩) 1 1) 1 1 (bs [128]) := RV_new w5 (bs [128]) 5 1 1 (0, 0) rfl (by decide)
      generalize World.alloc w5 _ = w5_1 at BL_1 R1_w5_1 ⊢
      refine hK.out _ _ (((BL_1.cell (p := ⟨gx, 9, none⟩) hgl).trans p9)) (fun hHeld => ?_)
      clear hK K
      refine norm_ (a' := ?_) ?_ ?_
      rotate_left
      · show Act.put _ (some 16) _ = _
        simp only [Act.put, List.setIfInBounds_toArray, List.set_cons_zero, List.set_cons_succ, i64_w, i32_w]
        rfl
      refine two_ (i := 9) (j := 12) (Ni := some 24) (Nj := some 27) #[true, true, true, true, true, true, true, true, true, true, true, true, false, false, false] #[true, true, true, true, true, true, true, true, true, false, true, true, true, false, false] rfl rfl rfl rfl (by kernel_rfl) (by decide) (by decide) (fun K hK => ?_) (fun K hK => ?_)
      · skip
        refine value_ (w1 := ?_) (v := ?_) (by rfl) rfl ?_ ?_
        rotate_left 2
        · go_simp
          constructor
          · rfl
          · rfl
        have BL_1_9 := Below.alloc BL_1 BL_1.size (.cells (madeCells #[.int .u8 0] z) 5)
        have R9_w5_1_9 : RV (World.alloc w5_1 (.cells (madeCells #[.int .u8 0] z) 5)) (.slice (some ⟨w5_1.heap.size, 0, none⟩) z z) z 1 (bs (List.replicate z 0)) := made_rv w5_1 z hzm
        have R1_w5_1_9 := RV.alloc R1_w5_1 (.cells (madeCells #[.int .u8 0] z) 5)
        generalize World.alloc w5_1 _ = w5_1_9 at BL_1_9 R9_w5_1_9 R1_w5_1_9 ⊢
        refine hK.out _ _ (((BL_1_9.cell (p := ⟨gx, 9, none⟩) hgl).trans p9)) (fun hHeld => ?_)
        clear hK K
        refine norm_ (a' := ?_) ?_ ?_
        rotate_left
        · show Act.put _ (some 24) _ = _
          simp only [Act.put, List.setIfInBounds_toArray, List.set_cons_zero, List.set_cons_succ, i64_w, i32_w]
          rfl
        refine one_ (i := 12) (N := some 27) #[true, true, true, true, true, true, true, true, true, true, true, true, true, false, false] rfl rfl (by kernel_rfl) (by decide) (fun K hK => ?_)
        refine goes_ Try.func32 (by kernel_rfl) rfl #[.int .u64 ((8 * L : Nat) : Int)] (by rfl) rfl rfl (by simp only [List.map_toArray, List.map_cons, List.map_nil]; rfl) ?_
        with_reducible refine (high_calls (8 * L) w5_1_9).mono ?_
        rintro e w5_1_9_12 ⟨v12, rfl, ho12, hd12⟩
        refine ⟨_, rfl, ?_⟩
        have R12_w5_1_9_12 := high_rv ho12
        have BL_1_9_12 := Below.trans BL_1_9 (hd12.mono BL_1_9.size)
        obtain ⟨A12, c12, rfl⟩ := RV.slice R12_w5_1_9_12
        have R1_w5_1_9_12 := RV.below R1_w5_1_9 hd12
        have R9_w5_1_9_12 := RV.below R9_w5_1_9 hd12
        refine hK.out _ _ (((BL_1_9_12.cell (p := ⟨gx, 9, none⟩) hgl).trans p9)) (fun hHeld => ?_)
        clear hK K
        refine norm_ (a' := ?_) ?_ ?_
        rotate_left
        · show Act.put _ (some 27) _ = _
          simp only [Act.put, List.setIfInBounds_toArray, List.set_cons_zero, List.set_cons_succ, i64_w, i32_w]
          rfl
        exact norm_ (by simp only [putAll, Act.put, List.setIfInBounds_toArray, List.set_cons_zero, List.set_cons_succ]) (hCont (w5.heap.size, w5_1.heap.size, A12, c12) _ ⟨((BL_1_9_12.cell (p := ⟨gx, 9, none⟩) hgl).trans p9), BL_1_9_12, R1_w5_1_9_12, R9_w5_1_9_12, R12_w5_1_9_12⟩)
      · skip
        refine goes_ Try.func32 (by kernel_rfl) rfl #[.int .u64 ((8 * L : Nat) : Int)] (by rfl) rfl rfl (by simp only [List.map_toArray, List.map_cons, List.map_nil]; rfl) ?_
        with_reducible refine (high_calls (8 * L) w5_1).mono ?_
        rintro e w5_1_12 ⟨v12, rfl, ho12, hd12⟩
        refine ⟨_, rfl, ?_⟩
        have R12_w5_1_12 := high_rv ho12
        have BL_1_12 := Below.trans BL_1 (hd12.mono BL_1.size)
        obtain ⟨A12, c12, rfl⟩ := RV.slice R12_w5_1_12
        have R1_w5_1_12 := RV.below R1_w5_1 hd12
        refine hK.out _ _ (((BL_1_12.cell (p := ⟨gx, 9, none⟩) hgl).trans p9)) (fun hHeld => ?_)
        clear hK K
        refine norm_ (a' := ?_) ?_ ?_
        rotate_left
        · show Act.put _ (some 27) _ = _
          simp only [Act.put, List.setIfInBounds_toArray, List.set_cons_zero, List.set_cons_succ, i64_w, i32_w]
          rfl
        refine one_ (i := 9) (N := some 24) #[true, true, true, true, true, true, true, true, true, true, true, true, true, false, false] rfl rfl (by kernel_rfl) (by decide) (fun K hK => ?_)
        refine value_ (w1 := ?_) (v := ?_) (by rfl) rfl ?_ ?_
        rotate_left 2
        · go_simp
          constructor
          · rfl
          · rfl
        have BL_1_12_9 := Below.alloc BL_1_12 BL_1_12.size (.cells (madeCells #[.int .u8 0] z) 5)
        have R9_w5_1_12_9 : RV (World.alloc w5_1_12 (.cells (madeCells #[.int .u8 0] z) 5)) (.slice (some ⟨w5_1_12.heap.size, 0, none⟩) z z) z 1 (bs (List.replicate z 0)) := made_rv w5_1_12 z hzm
        have R1_w5_1_12_9 := RV.alloc R1_w5_1_12 (.cells (madeCells #[.int .u8 0] z) 5)
        have R12_w5_1_12_9 := RV.alloc R12_w5_1_12 (.cells (madeCells #[.int .u8 0] z) 5)
        generalize World.alloc w5_1_12 _ = w5_1_12_9 at BL_1_12_9 R9_w5_1_12_9 R1_w5_1_12_9 R12_w5_1_12_9 ⊢
        refine hK.out _ _ (((BL_1_12_9.cell (p := ⟨gx, 9, none⟩) hgl).trans p9)) (fun hHeld => ?_)
        clear hK K
        refine norm_ (a' := ?_) ?_ ?_
        rotate_left
        · show Act.put _ (some 24) _ = _
          simp only [Act.put, List.setIfInBounds_toArray, List.set_cons_zero, List.set_cons_succ, i64_w, i32_w]
          rfl
        exact norm_ (by simp only [putAll, Act.put, List.setIfInBounds_toArray, List.set_cons_zero, List.set_cons_succ]) (hCont (w5.heap.size, w5_1_12.heap.size, A12, c12) _ ⟨((BL_1_12_9.cell (p := ⟨gx, 9, none⟩) hgl).trans p9), BL_1_12_9, R1_w5_1_12_9, R9_w5_1_12_9, R12_w5_1_12_9⟩)
    · skip
      refine value_ (w1 := ?_) (v := ?_) (by rfl) rfl ?_ ?_
      rotate_left 2
      · go_simp
        constructor
        · rfl
        · rfl
      have BL_9 := Below.alloc BL BL.size (.cells (madeCells #[.int .u8 0] z) 5)
      have R9_w5_9 : RV (World.alloc w5 (.cells (madeCells #[.int .u8 0] z) 5)) (.slice (some ⟨w5.heap.size, 0, none⟩) z z) z 1 (bs (List.replicate z 0)) := made_rv w5 z hzm
      generalize World.alloc w5 _ = w5_9 at BL_9 R9_w5_9 ⊢
      refine hK.out _ _ (((BL_9.cell (p := ⟨gx, 9, none⟩) hgl).trans p9)) (fun hHeld => ?_)
      clear hK K
      refine norm_ (a' := ?_) ?_ ?_
      rotate_left
      · show Act.put _ (some 24) _ = _
        simp only [Act.put, List.setIfInBounds_toArray, List.set_cons_zero, List.set_cons_succ, i64_w, i32_w]
        rfl
      refine two_ (i := 1) (j := 12) (Ni := some 16) (Nj := some 27) #[true, true, true, true, true, true, true, true, true, true, true, true, false, false, false] #[true, false, true, true, true, true, true, true, true, true, true, true, true, false, false] rfl rfl rfl rfl (by kernel_rfl) (by decide) (by decide) (fun K hK => ?_) (fun K hK => ?_)
      · skip
        refine value_ (w1 := ?_) (v := ?_) (by rfl) rfl ?_ ?_
        rotate_left 2
        · go_simp
          constructor
          · rfl
          · rfl
        have BL_9_1 := Below.alloc BL_9 BL_9.size (.cells #[.int .u8 128] 5)
        have R1_w5_9_1 : RV (World.alloc w5_9 (.cells #[.int .u8 128] 5)) (.slice (some ⟨w5_9.heap.size, 0, none⟩) 1 1) 1 1 (bs [128]) := RV_new w5_9 (bs [128]) 5 1 1 (0, 0) rfl (by decide)
        have R9_w5_9_1 := RV.alloc R9_w5_9 (.cells #[.int .u8 128] 5)
        generalize World.alloc w5_9 _ = w5_9_1 at BL_9_1 R1_w5_9_1 R9_w5_9_1 ⊢
        refine hK.out _ _ (((BL_9_1.cell (p := ⟨gx, 9, none⟩) hgl).trans p9)) (fun hHeld => ?_)
        clear hK K
        refine norm_ (a' := ?_) ?_ ?_
        rotate_left
        · show Act.put _ (some 16) _ = _
          simp only [Act.put, List.setIfInBounds_toArray, List.set_cons_zero, List.set_cons_succ, i64_w, i32_w]
          rfl
        refine one_ (i := 12) (N := some 27) #[true, true, true, true, true, true, true, true, true, true, true, true, true, false, false] rfl rfl (by kernel_rfl) (by decide) (fun K hK => ?_)
        refine goes_ Try.func32 (by kernel_rfl) rfl #[.int .u64 ((8 * L : Nat) : Int)] (by rfl) rfl rfl (by simp only [List.map_toArray, List.map_cons, List.map_nil]; rfl) ?_
        with_reducible refine (high_calls (8 * L) w5_9_1).mono ?_
        rintro e w5_9_1_12 ⟨v12, rfl, ho12, hd12⟩
        refine ⟨_, rfl, ?_⟩
        have R12_w5_9_1_12 := high_rv ho12
        have BL_9_1_12 := Below.trans BL_9_1 (hd12.mono BL_9_1.size)
        obtain ⟨A12, c12, rfl⟩ := RV.slice R12_w5_9_1_12
        have R9_w5_9_1_12 := RV.below R9_w5_9_1 hd12
        have R1_w5_9_1_12 := RV.below R1_w5_9_1 hd12
        refine hK.out _ _ (((BL_9_1_12.cell (p := ⟨gx, 9, none⟩) hgl).trans p9)) (fun hHeld => ?_)
        clear hK K
        refine norm_ (a' := ?_) ?_ ?_
        rotate_left
        · show Act.put _ (some 27) _ = _
          simp only [Act.put, List.setIfInBounds_toArray, List.set_cons_zero, List.set_cons_succ, i64_w, i32_w]
          rfl
        exact norm_ (by simp only [putAll, Act.put, List.setIfInBounds_toArray, List.set_cons_zero, List.set_cons_succ]) (hCont (w5_9.heap.size, w5.heap.size, A12, c12) _ ⟨((BL_9_1_12.cell (p := ⟨gx, 9, none⟩) hgl).trans p9), BL_9_1_12, R1_w5_9_1_12, R9_w5_9_1_12, R12_w5_9_1_12⟩)
      · skip
        refine goes_ Try.func32 (by kernel_rfl) rfl #[.int .u64 ((8 * L : Nat) : Int)] (by rfl) rfl rfl (by simp only [List.map_toArray, List.map_cons, List.map_nil]; rfl) ?_
        with_reducible refine (high_calls (8 * L) w5_9).mono ?_
        rintro e w5_9_12 ⟨v12, rfl, ho12, hd12⟩
        refine ⟨_, rfl, ?_⟩
        have R12_w5_9_12 := high_rv ho12
        have BL_9_12 := Below.trans BL_9 (hd12.mono BL_9.size)
        obtain ⟨A12, c12, rfl⟩ := RV.slice R12_w5_9_12
        have R9_w5_9_12 := RV.below R9_w5_9 hd12
        refine hK.out _ _ (((BL_9_12.cell (p := ⟨gx, 9, none⟩) hgl).trans p9)) (fun hHeld => ?_)
        clear hK K
        refine norm_ (a' := ?_) ?_ ?_
        rotate_left
        · show Act.put _ (some 27) _ = _
          simp only [Act.put, List.setIfInBounds_toArray, List.set_cons_zero, List.set_cons_succ, i64_w, i32_w]
          rfl
        refine one_ (i := 1) (N := some 16) #[true, true, true, true, true, true, true, true, true, true, true, true, true, false, false] rfl rfl (by kernel_rfl) (by decide) (fun K hK => ?_)
        refine value_ (w1 := ?_) (v := ?_) (by rfl) rfl ?_ ?_
        rotate_left 2
        · go_simp
          constructor
          · rfl
          · rfl
        have BL_9_12_1 := Below.alloc BL_9_12 BL_9_12.size (.cells #[.int .u8 128] 5)
        have R1_w5_9_12_1 : RV (World.alloc w5_9_12 (.cells #[.int .u8 128] 5)) (.slice (some ⟨w5_9_12.heap.size, 0, none⟩) 1 1) 1 1 (bs [128]) := RV_new w5_9_12 (bs [128]) 5 1 1 (0, 0) rfl (by decide)
        have R9_w5_9_12_1 := RV.alloc R9_w5_9_12 (.cells #[.int .u8 128] 5)
        have R12_w5_9_12_1 := RV.alloc R12_w5_9_12 (.cells #[.int .u8 128] 5)
        generalize World.alloc w5_9_12 _ = w5_9_12_1 at BL_9_12_1 R1_w5_9_12_1 R9_w5_9_12_1 R12_w5_9_12_1 ⊢
        refine hK.out _ _ (((BL_9_12_1.cell (p := ⟨gx, 9, none⟩) hgl).trans p9)) (fun hHeld => ?_)
        clear hK K
        refine norm_ (a' := ?_) ?_ ?_
        rotate_left
        · show Act.put _ (some 16) _ = _
          simp only [Act.put, List.setIfInBounds_toArray, List.set_cons_zero, List.set_cons_succ, i64_w, i32_w]
          rfl
        exact norm_ (by simp only [putAll, Act.put, List.setIfInBounds_toArray, List.set_cons_zero, List.set_cons_succ]) (hCont (w5_9_12.heap.size, w5.heap.size, A12, c12) _ ⟨((BL_9_12_1.cell (p := ⟨gx, 9, none⟩) hgl).trans p9), BL_9_12_1, R1_w5_9_12_1, R9_w5_9_12_1, R12_w5_9_12_1⟩)
    · skip
      refine goes_ Try.func32 (by kernel_rfl) rfl #[.int .u64 ((8 * L : Nat) : Int)] (by rfl) rfl rfl (by simp only [List.map_toArray, List.map_cons, List.map_nil]; rfl) ?_
      with_reducible refine (high_calls (8 * L) w5).mono ?_
      rintro e w5_12 ⟨v12, rfl, ho12, hd12⟩
      refine ⟨_, rfl, ?_⟩
      have R12_w5_12 := high_rv ho12
      have BL_12 := Below.trans BL (hd12.mono BL.size)
      obtain ⟨A12, c12, rfl⟩ := RV.slice R12_w5_12
      refine hK.out _ _ (((BL_12.cell (p := ⟨gx, 9, none⟩) hgl).trans p9)) (fun hHeld => ?_)
      clear hK K
      refine norm_ (a' := ?_) ?_ ?_
      rotate_left
      · show Act.put _ (some 27) _ = _
        simp only [Act.put, List.setIfInBounds_toArray, List.set_cons_zero, List.set_cons_succ, i64_w, i32_w]
        rfl
      refine two_ (i := 1) (j := 9) (Ni := some 16) (Nj := some 24) #[true, true, true, true, true, true, true, true, true, false, true, true, true, false, false] #[true, false, true, true, true, true, true, true, true, true, true, true, true, false, false] rfl rfl rfl rfl (by kernel_rfl) (by decide) (by decide) (fun K hK => ?_) (fun K hK => ?_)
      · skip
        refine value_ (w1 := ?_) (v := ?_) (by rfl) rfl ?_ ?_
        rotate_left 2
        · go_simp
          constructor
          · rfl
          · rfl
        have BL_12_1 := Below.alloc BL_12 BL_12.size (.cells #[.int .u8 128] 5)
        have R1_w5_12_1 : RV (World.alloc w5_12 (.cells #[.int .u8 128] 5)) (.slice (some ⟨w5_12.heap.size, 0, none⟩) 1 1) 1 1 (bs [128]) := RV_new w5_12 (bs [128]) 5 1 1 (0, 0) rfl (by decide)
        have R12_w5_12_1 := RV.alloc R12_w5_12 (.cells #[.int .u8 128] 5)
        generalize World.alloc w5_12 _ = w5_12_1 at BL_12_1 R1_w5_12_1 R12_w5_12_1 ⊢
        refine hK.out _ _ (((BL_12_1.cell (p := ⟨gx, 9, none⟩) hgl).trans p9)) (fun hHeld => ?_)
        clear hK K
        refine norm_ (a' := ?_) ?_ ?_
        rotate_left
        · show Act.put _ (some 16) _ = _
          simp only [Act.put, List.setIfInBounds_toArray, List.set_cons_zero, List.set_cons_succ, i64_w, i32_w]
          rfl
        refine one_ (i := 9) (N := some 24) #[true, true, true, true, true, true, true, true, true, true, true, true, true, false, false] rfl rfl (by kernel_rfl) (by decide) (fun K hK => ?_)
        refine value_ (w1 := ?_) (v := ?_) (by rfl) rfl ?_ ?_
        rotate_left 2
        · go_simp
          constructor
          · rfl
          · rfl
        have BL_12_1_9 := Below.alloc BL_12_1 BL_12_1.size (.cells (madeCells #[.int .u8 0] z) 5)
        have R9_w5_12_1_9 : RV (World.alloc w5_12_1 (.cells (madeCells #[.int .u8 0] z) 5)) (.slice (some ⟨w5_12_1.heap.size, 0, none⟩) z z) z 1 (bs (List.replicate z 0)) := made_rv w5_12_1 z hzm
        have R12_w5_12_1_9 := RV.alloc R12_w5_12_1 (.cells (madeCells #[.int .u8 0] z) 5)
        have R1_w5_12_1_9 := RV.alloc R1_w5_12_1 (.cells (madeCells #[.int .u8 0] z) 5)
        generalize World.alloc w5_12_1 _ = w5_12_1_9 at BL_12_1_9 R9_w5_12_1_9 R12_w5_12_1_9 R1_w5_12_1_9 ⊢
        refine hK.out _ _ (((BL_12_1_9.cell (p := ⟨gx, 9, none⟩) hgl).trans p9)) (fun hHeld => ?_)
        clear hK K
        refine norm_ (a' := ?_) ?_ ?_
        rotate_left
        · show Act.put _ (some 24) _ = _
          simp only [Act.put, List.setIfInBounds_toArray, List.set_cons_zero, List.set_cons_succ, i64_w, i32_w]
          rfl
        exact norm_ (by simp only [putAll, Act.put, List.setIfInBounds_toArray, List.set_cons_zero, List.set_cons_succ]) (hCont (w5_12.heap.size, w5_12_1.heap.size, A12, c12) _ ⟨((BL_12_1_9.cell (p := ⟨gx, 9, none⟩) hgl).trans p9), BL_12_1_9, R1_w5_12_1_9, R9_w5_12_1_9, R12_w5_12_1_9⟩)
      · skip
        refine value_ (w1 := ?_) (v := ?_) (by rfl) rfl ?_ ?_
        rotate_left 2
        · go_simp
          constructor
          · rfl
          · rfl
        have BL_12_9 := Below.alloc BL_12 BL_12.size (.cells (madeCells #[.int .u8 0] z) 5)
        have R9_w5_12_9 : RV (World.alloc w5_12 (.cells (madeCells #[.int .u8 0] z) 5)) (.slice (some ⟨w5_12.heap.size, 0, none⟩) z z) z 1 (bs (List.replicate z 0)) := made_rv w5_12 z hzm
        have R12_w5_12_9 := RV.alloc R12_w5_12 (.cells (madeCells #[.int .u8 0] z) 5)
        generalize World.alloc w5_12 _ = w5_12_9 at BL_12_9 R9_w5_12_9 R12_w5_12_9 ⊢
        refine hK.out _ _ (((BL_12_9.cell (p := ⟨gx, 9, none⟩) hgl).trans p9)) (fun hHeld => ?_)
        clear hK K
        refine norm_ (a' := ?_) ?_ ?_
        rotate_left
        · show Act.put _ (some 24) _ = _
          simp only [Act.put, List.setIfInBounds_toArray, List.set_cons_zero, List.set_cons_succ, i64_w, i32_w]
          rfl
        refine one_ (i := 1) (N := some 16) #[true, true, true, true, true, true, true, true, true, true, true, true, true, false, false] rfl rfl (by kernel_rfl) (by decide) (fun K hK => ?_)
        refine value_ (w1 := ?_) (v := ?_) (by rfl) rfl ?_ ?_
        rotate_left 2
        · go_simp
          constructor
          · rfl
          · rfl
        have BL_12_9_1 := Below.alloc BL_12_9 BL_12_9.size (.cells #[.int .u8 128] 5)
        have R1_w5_12_9_1 : RV (World.alloc w5_12_9 (.cells #[.int .u8 128] 5)) (.slice (some ⟨w5_12_9.heap.size, 0, none⟩) 1 1) 1 1 (bs [128]) := RV_new w5_12_9 (bs [128]) 5 1 1 (0, 0) rfl (by decide)
        have R12_w5_12_9_1 := RV.alloc R12_w5_12_9 (.cells #[.int .u8 128] 5)
        have R9_w5_12_9_1 := RV.alloc R9_w5_12_9 (.cells #[.int .u8 128] 5)
        generalize World.alloc w5_12_9 _ = w5_12_9_1 at BL_12_9_1 R1_w5_12_9_1 R12_w5_12_9_1 R9_w5_12_9_1 ⊢
        refine hK.out _ _ (((BL_12_9_1.cell (p := ⟨gx, 9, none⟩) hgl).trans p9)) (fun hHeld => ?_)
        clear hK K
        refine norm_ (a' := ?_) ?_ ?_
        rotate_left
        · show Act.put _ (some 16) _ = _
          simp only [Act.put, List.setIfInBounds_toArray, List.set_cons_zero, List.set_cons_succ, i64_w, i32_w]
          rfl
        exact norm_ (by simp only [putAll, Act.put, List.setIfInBounds_toArray, List.set_cons_zero, List.set_cons_succ]) (hCont (w5_12_9.heap.size, w5_12.heap.size, A12, c12) _ ⟨((BL_12_9_1.cell (p := ⟨gx, 9, none⟩) hgl).trans p9), BL_12_9_1, R1_w5_12_9_1, R9_w5_12_9_1, R12_w5_12_9_1⟩)
  rintro ⟨s1, s2, s3, s4⟩ w8 ⟨hS_, BL8, R1_8, R9_8, R12_8⟩
  have hHeld : w8.cell? ⟨gx, 9, none⟩ = some (.slice A r c) := hS_
  refine norm_ (a' := ?_) ?_ ?_
  rotate_left
  · simp only [putAll, Act.put, List.setIfInBounds_toArray, List.set_cons_zero, List.set_cons_succ]
    rfl
  refine one_ (i := 13) (N := some 28) #[true, true, true, true, true, true, true, true, true, true, true, true, true, true, false] rfl rfl (by kernel_rfl) (by decide) (fun K hK => ?_)
  refine value_ (w1 := ?_) (v := ?_) (by rfl) rfl ?_ ?_
  rotate_left 2
  · go_simp
    constructor
    · rfl
    · rfl
  have BL9 := Below.alloc BL8 BL8.size (.cells #[.slice (some ⟨s1, 0, none⟩) 1 1, .slice (some ⟨s2, 0, none⟩) z z, .slice s3 8 s4] 28)
  have HRB : RBs (World.alloc w8 (.cells #[.slice (some ⟨s1, 0, none⟩) 1 1, .slice (some ⟨s2, 0, none⟩) z z, .slice s3 8 s4] 28)) (.slice (some ⟨w8.heap.size, 0, none⟩) 3 3) [[128], List.replicate z 0, be8 (8 * L)] := rbs3 R1_8 R9_8 R12_8
  have hS9 := HS.now (HS.below hSx BL9)
  generalize World.alloc w8 _ = w9 at BL9 HRB hS9 ⊢
  refine hK.out _ _ (((BL9.cell (p := ⟨gx, 9, none⟩) hgl).trans p9)) (fun hHeld => ?_)
  clear hK K
  refine norm_ (a' := ?_) ?_ ?_
  rotate_left
  · show Act.put _ (some 28) _ = _
    simp only [Act.put, List.setIfInBounds_toArray, List.set_cons_zero, List.set_cons_succ, i64_w, i32_w]
    rfl
  refine last_ (i := 14) (N := some 29) #[true, true, true, true, true, true, true, true, true, true, true, true, true, true, true] rfl rfl (by kernel_rfl) (by decide) (fun K hK => ?_)
  refine goes_ Try.func18 (by kernel_rfl) rfl #[.pointer (some ⟨gx, 0, none⟩), .slice (some ⟨w8.heap.size, 0, none⟩) 3 3] (by rfl) rfl rfl (by simp only [List.map_toArray, List.map_cons, List.map_nil]; rfl) ?_
  with_reducible refine (write_calls gx _ M b _ w9 hS9 HRB hlen hn3).mono ?_
  rintro e w10 ⟨rfl, hS10⟩
  refine ⟨_, rfl, ?_⟩
  refine hK.out _ _ ?_
  clear hK K
  refine norm_ (a' := ?_) ?_ ?_
  rotate_left
  · show Act.put _ (some 29) _ = _
    simp only [Act.put, List.setIfInBounds_toArray, List.set_cons_zero, List.set_cons_succ, i64_w, i32_w]
    rfl
  refine done_ (by kernel_rfl) ?_
  rw [AP.out] at hS10
  obtain ⟨hSq, hgx5, hr5, hB5⟩ := AR.out
  have hk10 := HS.grown hS10
  have hr9 := blk_below hr5 BL9
  have hr10 := blk_grown hr9 hk10 (fun e => by rw [Option.some.injEq] at e; omega)
  have hB10 : Below w.heap.size w w10 := (hB5.trans (BL9.mono hB5.size)).grown hk10 (Nat.le_trans hB5.size BL9.size) (fun k e => by rw [Option.some.injEq] at e; omega)
  obtain ⟨H', A', c', hBk, hE', hH', hR', hb'⟩ := hS10
  have hpos : 0 < (padM M).length / 64 := by rw [padM_length]; unfold padN; omega
  have hX := hH' hpos
  have hXd : H' = digW M := hX
  have hX8 : H'.length = 8 := hBk.2.1
  have hrg := hBk.range
  have hrg2 : (w10.alloc (.cells z32 26)).rangeAt gx 0 (u32s H') := fun j v hj => by
    have h1 := hrg j v hj
    exact (((Below.refl w10.heap.size w10).alloc (Nat.le_refl _) _).cell (World.block_lt_of_cell? _ _ h1)).trans h1
  have hs8 : (Try.prog.info? 36).map (·.size) = some (u32s H').length := by rw [u32s_length, hX8]; exact size8
  have hgs := blk_alloc hr10 (.cells z32 26)
  have hgs2 := heap_alloc_new w10 (.cells z32 26)
  have hB11 := hB10.alloc hB10.size (.cells z32 26)
  have hlt10 := blk_lt hr10
  have A1 := Aside0.mk hgs
  have A2 := Aside0.mk hgs2
  have A3 := Aside0.mk hB11
  have AX := Aside0.mk hXd
  have AX8 := Aside0.mk hX8
  clear hr10 hB10 hBk hE' hH' hR' hX hXd hrg hgs hgs2 hB11 hr9 hr5 hB5 BL9 hSx hSq hX8

  go_wp2_with (refine wpList_load_mid rfl 36 (.tmp 32) rfl gx 0 rfl (u32s H') _ hrg2 Try.underlying36 rfl hs8 ?_)
  have hK0 : KS w (w10.alloc (.cells z32 26)) w10.heap.size H' 0 := ⟨A2.out, A1.out, A3.out, hlt10, AX8.out⟩
  have hK1 : KS w _ w10.heap.size H' 0 := hK0
  obtain ⟨gs, hgs⟩ : ∃ x, w10.heap.size = x := ⟨_, rfl⟩
  rw [hgs] at hK0 ⊢
  generalize hcs : H' = X at hK0 AX ⊢
  go_loopw [34] (fun s34 wr => ∃ k : Nat, k ≤ 8 ∧ s34 = .int .i64 (k : Int) ∧ KS w wr gs X k) (fun s34 _ => 8 - (intOf s34).toNat)
  case atStart => exact ⟨0, Nat.zero_le _, rfl, hK0⟩
  case round =>
    clear hK0 hK1 hcs hgs A1 A2 A3 AX8 hmk hrz hrw h8 p9 hgl hgx5 hlen hzm hlt10 hrg2 hs8
    obtain ⟨k, hk, rfl, hK⟩ := hrel
    have hXl := hK.2.2.2.2
    by_cases hlt : k < 8
    · obtain ⟨y, hy⟩ : ∃ y, X.getD k 0 = y := ⟨_, rfl⟩
      have hcell : (u32s X).toArray[k]? = some (.int .u32 (y : Int)) := by
        have := u32s_at X [] k (by omega)
        rw [List.append_nil, hy] at this
        exact this
      have hix : ∀ w' : World, Sem.run Try.prog (Instr.index 36 (.agg (u32s X).toArray) (.int .i64 (k : Int))) w' = .ok (.int .u32 (y : Int)) w' := fun w' => index_w8 _ k y hlt hcell w'
      have hylt : y < 4294967296 := by rw [← hy, AX.out]; exact digW_lt M k
      have hu : IntKind.u64.wrap (y : Int) = (y : Int) := wrap_u64n y (by omega)
      have k0 : (0 : Int) ≤ (k : Int) := by omega
      have k1 : (k : Int) < 8 := by omega
      have k2 : wrap64 (4 * (k : Int)) = 4 * (k : Int) := by unfold wrap64; omega
      have k3 : (0 : Int) ≤ 4 * (k : Int) := by omega
      have k4 : 4 * (k : Int) ≤ 32 := by omega
      have k5 : (4 * (k : Int)).toNat = 4 * k := by omega
      have k6 : ¬ (4 * k = 32) := by omega
      have k7 : ¬ (32 = 4 * k) := by omega
      have AY := Aside0.mk hy
      have KS12 := hK.drew
      generalize u32s X = UX at hix
      clear hcell hXl
      go_wp2_with fail
      refine start_ (n := 8) (S := fun w' => True) (ds := [7]) #[false, false, false, false, false, false, false, false] (by kernel_rfl) rfl rfl trivial (fun hHeld => ?_)
      generalize wr.drew = w12 at KS12 hHeld ⊢
      refine pure_ (i := 0) (N := some 38) (v := ?_) (a' := ?_) #[true, false, false, false, false, false, false, false] rfl rfl (by kernel_rfl) (fun _ _ _ h => h) (Or.inl ⟨by rfl, ?_⟩) ?_ ?_
      rotate_left
      · intro w'
        go_simp
        with_reducible rfl
      rotate_left
      · simp only [Act.put, List.setIfInBounds_toArray, List.set_cons_zero, List.set_cons_succ, i64_w, i32_w]
        rfl
      refine pure_ (i := 1) (N := some 39) (v := ?_) (a' := ?_) #[true, true, false, false, false, false, false, false] rfl rfl (by kernel_rfl) (fun _ _ _ h => h) (Or.inl ⟨by rfl, ?_⟩) ?_ ?_
      rotate_left
      · intro w'
        go_simp
        with_reducible rfl
      rotate_left
      · simp only [Act.put, List.setIfInBounds_toArray, List.set_cons_zero, List.set_cons_succ, i64_w, i32_w]
        rfl
      refine pure_ (i := 2) (N := some 40) (v := ?_) (a' := ?_) #[true, true, true, false, false, false, false, false] rfl rfl (by kernel_rfl) (fun _ _ _ h => h) (Or.inl ⟨by rfl, ?_⟩) ?_ ?_
      rotate_left
      · intro w'
        go_simp
        with_reducible rfl
      rotate_left
      · simp only [Act.put, List.setIfInBounds_toArray, List.set_cons_zero, List.set_cons_succ, i64_w, i32_w]
        rfl
      refine pure_ (i := 3) (N := some 41) (v := ?_) (a' := ?_) #[true, true, true, true, false, false, false, false] rfl rfl (by kernel_rfl) (fun _ _ _ h => h) (Or.inl ⟨by rfl, ?_⟩) ?_ ?_
      rotate_left
      · intro w'
        go_simp
        with_reducible rfl
      rotate_left
      · simp only [Act.put, List.setIfInBounds_toArray, List.set_cons_zero, List.set_cons_succ, i64_w, i32_w]
        rfl
      refine pure_ (i := 4) (N := some 42) (v := ?_) (a' := ?_) #[true, true, true, true, true, false, false, false] rfl rfl (by kernel_rfl) (fun _ _ _ h => h) (Or.inl ⟨by rfl, ?_⟩) ?_ ?_
      rotate_left
      · intro w'
        go_simp
        with_reducible rfl
      rotate_left
      · simp only [Act.put, List.setIfInBounds_toArray, List.set_cons_zero, List.set_cons_succ, i64_w, i32_w]
        rfl
      refine one_ (i := 5) (N := some 43) #[true, true, true, true, true, true, false, false] rfl rfl (by kernel_rfl) (by decide) (fun K hK => ?_)
      refine goes_ Try.func32 (by kernel_rfl) rfl #[.int .u64 (y : Int)] (by rfl) rfl rfl (by simp only [List.map_toArray, List.map_cons, List.map_nil]; rfl) ?_
      with_reducible refine (high_calls y w12).mono ?_
      rintro e w13 ⟨v13, rfl, ho13, hd13⟩
      refine ⟨_, rfl, ?_⟩
      have R13 := high_rv ho13
      have KS13 := KS12.below hd13
      obtain ⟨A13, c13, rfl⟩ := RV.slice R13
      obtain ⟨b13, o13, rfl, hc13⟩ := RV.some8 R13
      have k13 : ¬ (c13 = 4) := by omega
      have j13 : (4 : Int) ≤ (c13 : Int) := by omega
      have hcp := KS13.copy hlt AY.out R13
      refine hK.out _ _ trivial (fun hHeld => ?_)
      clear hK K
      refine norm_ (a' := ?_) ?_ ?_
      rotate_left
      · show Act.put _ (some 43) _ = _
        simp only [Act.put, List.setIfInBounds_toArray, List.set_cons_zero, List.set_cons_succ, i64_w, i32_w]
        rfl
      refine pure_ (i := 6) (N := some 44) (v := ?_) (a' := ?_) #[true, true, true, true, true, true, true, false] rfl rfl (by kernel_rfl) (fun _ _ _ h => h) (Or.inl ⟨by rfl, ?_⟩) ?_ ?_
      rotate_left
      · intro w'
        go_simp
        with_reducible rfl
      rotate_left
      · simp only [Act.put, List.setIfInBounds_toArray, List.set_cons_zero, List.set_cons_succ, i64_w, i32_w]
        rfl
      refine last_ (i := 7) (N := some 45) #[true, true, true, true, true, true, true, true] rfl rfl (by kernel_rfl) (by decide) (fun K hK => ?_)
      refine if_wanted (by rfl) (Lib.wp_copy_run _ _ _ _ _ rfl _ _ rfl rfl (hcp _).1 ?_)
      refine hK.out _ _ ?_
      clear hK K
      refine norm_ (a' := ?_) ?_ ?_
      rotate_left
      · show Act.put _ (some 45) _ = _
        simp only [Act.put, List.setIfInBounds_toArray, List.set_cons_zero, List.set_cons_succ, i64_w, i32_w]
        rfl
      refine done_ (by kernel_rfl) ?_
      have hKS := (hcp 0).2
      clear hcp KS13 R13 ho13 hd13 KS12
      go_wp2_with fail
      go_roundw
      case rel => exact ⟨k + 1, by omega, by go_num, hKS⟩
      case measure => simp [intOf]; omega
    · have hk8 : k = 8 := by omega
      subst hk8
      have hrow : rowS X 8 = (bs (X.flatMap be4)).toArray := by unfold rowS; rw [List.take_of_length_le (by omega)]; simp
      have hg := hK.1
      have hr := hK.2.1
      have hb := hK.2.2.1
      have hlt2 := hK.2.2.2.1
      rw [hrow] at hg
      have hdig : X.flatMap be4 = digest M := by rw [AX.out]; rfl
      rw [hdig] at hg
      have hsz : (bs (digest M)).length = 32 := by rw [bs_length, digest_length]
      have hs32 : (Try.prog.info? 26).map (·.size) = some (bs (digest M)).length := by rw [hsz]; exact size32
      have hs32a : (Try.prog.info? 26).map (·.size) = some (bs (digest M)).toArray.size := by rw [List.size_toArray]; exact hs32
      have hza : z32.size = (bs (digest M)).toArray.size := by show 32 = _; rw [List.size_toArray, hsz]
      have hone : (bs (digest M)).toArray.all (·.oneCell') = true := all_oneCell_toArray (bs_one _)
      have hrd : ∀ j u, (bs (digest M))[j]? = some u → wr.cell? ⟨gs, 0 + j, none⟩ = some u := fun j u hj => by rw [blk_cell hg (0 + j), Nat.zero_add, List.getElem?_toArray]; exact hj
      have hfin := setRow_heap wr w.heap.size z32 (bs (digest M)).toArray _ _ hr
      have hbl : Below w.heap.size w (wr.setRow w.heap.size (bs (digest M)).toArray) := hb.trans ⟨rfl, rfl, rfl, by simp, fun i hi => setRow_other _ _ _ _ (by omega)⟩
      have AF := Aside0.mk hfin
      have AL := Aside0.mk hbl
      have AG := Aside0.mk hg
      clear hfin hbl hrow hg hb hK hdig hsz
      generalize hD : bs (digest M) = D at hs32 hs32a hza hone hrd AF AL
      go_wp2_with (first | (refine wpList_load_at 26 (.tmp 5) gs 0 D _ hrd Try.underlying26 rfl hs32 rfl rfl rfl ?_) | (refine wpList_store_row rfl 26 (.tmp 2) (.tmp 47) rfl w.heap.size D.toArray rfl rfl 26 _ hr hs32a hza hone ?_))

      refine bodyPost_ret (v := .agg D.toArray) (results_cell_row (p := 2) (ty := 26) rfl _ _ w.heap.size 26 D.toArray (0, 0) _ rfl AF.out Try.underlying26 rfl hs32a) rfl ?_
      rw [← hD]
      rw [← hD] at AL
      exact ⟨rfl, AL.out⟩

set_option maxHeartbeats 4000000 in
set_option maxRecDepth 100000 in
theorem hsum_none (M : List UInt8) (hM : M = []) (w : World) (hl : M.length ≤ 35184372088832) : Calls Try.prog 19 #[.pointer none] w fun e w' => e = .returned (.agg (bs (digest M)).toArray) ∧ Below w.heap.size w w' := by
  go_enter Try.func19, Try.ntmps19
  have AHM := Aside0.mk hM
  clear hM
  go_wp2_with (first | (go_at_call 17; refine (new_calls _).mono ?_; rintro e w1 ⟨rfl, hN1, hb1⟩; have hr1 := blk_below (heap_alloc_new w _) hb1; have hbw1 : Below w.heap.size w w1 := ((Below.refl w.heap.size w).alloc (Nat.le_refl _) _).trans (hb1.mono (by simp)); have hRd2 : Rd w w1 (w.heap.size + 1) M (M.length / 64) := ⟨by rw [AHM.out]; have h0 := hN1; simp at h0; exact h0, by omega, hr1, hbw1⟩; clear hr1) | (go_at_call 21; refine (len_calls _ M _ _ hRd2.1 (by omega)).mono ?_; rintro e w3 ⟨rfl, hb3⟩; have hRd := hRd2.below hb3; clear hRd2 hN1 hb1 hb3 hbw1))
  obtain ⟨gx, hgx⟩ : ∃ x, w.heap.size + 1 = x := ⟨_, rfl⟩
  rw [hgx] at hRd ⊢
  clear hgx
  obtain ⟨L, hL⟩ : ∃ L, M.length = L := ⟨_, rfl⟩
  obtain ⟨b, hb⟩ : ∃ b, M.length / 64 = b := ⟨_, rfl⟩
  obtain ⟨z, hz⟩ : ∃ z, padN M.length = z := ⟨_, rfl⟩
  have hlen : (M ++ [[128], List.replicate z 0, be8 (8 * L)].flatten).length ≤ 70368744177664 := by rw [← hz, ← hL]; have := padM_length M; unfold padM at this; rw [this]; unfold padN; omega
  have hpad : M ++ [[128], List.replicate z 0, be8 (8 * L)].flatten = padM M := by rw [← hz, ← hL]; rfl
  have hRd5 := hRd.below (Below.refl _ _).drew
  rw [hb] at hRd5
  obtain ⟨H, A, c, hBk, hE, hH, hR, hb64⟩ := hRd5.1
  obtain ⟨r, hr⟩ : ∃ r, M.length - 64 * b = r := ⟨_, rfl⟩
  rw [hr] at hBk hR
  have hgl := blk_lt hBk.1
  have p9 := hBk.c9
  have hrz : (119 - (r : Int)).tmod 64 = (z : Int) := by
    rw [Int.tmod_eq_emod_of_nonneg (by omega)]; unfold padN at hz; omega
  have hrw : wrap64 (119 - (r : Int)) = 119 - (r : Int) := by unfold wrap64; omega
  have h8 : IntKind.u64.wrap (8 * (L : Int)) = ((8 * L : Nat) : Int) := by have := wrap_u64n (8 * L) (by omega); rw [← this]; simp
  have hzm : z ≤ maxLen := by unfold padN at hz; unfold maxLen; omega
  have hmk := print_make (P := Try.prog) 28 5 .u8 1 Try.underlying28 info_u8 (by decide) z (by unfold padN at hz; omega)
  have hSx := hRd5.1
  have AR := Aside0.mk hRd5
  have AP := Aside0.mk hpad
  rw [hL]
  have hn3 : ([[128], List.replicate z 0, be8 (8 * L)] : List (List UInt8)).length ≤ 1000000000 := by simp
  clear hBk hE hH hR hr hz hL hb hpad hRd hRd5 hb64
  refine start_ (n := 15) (S := fun w' => w'.cell? ⟨gx, 9, none⟩ = some (.slice A r c)) (ds := [14]) #[false, false, false, false, false, false, false, false, false, false, false, false, false, false, false] (by kernel_rfl) rfl rfl (p9) (fun hHeld => ?_)
  generalize World.drew _ = w5 at AR hSx p9 hgl hHeld ⊢
  have BL := Below.refl w5.heap.size w5
  refine pure_ (i := 0) (N := some 15) (v := ?_) (a' := ?_) #[true, false, false, false, false, false, false, false, false, false, false, false, false, false, false] rfl rfl (by kernel_rfl) (fun _ _ _ h => h) (Or.inl ⟨by rfl, ?_⟩) ?_ ?_
  rotate_left
  · intro w'
    go_simp
    with_reducible rfl
  rotate_left
  · simp only [Act.put, List.setIfInBounds_toArray, List.set_cons_zero, List.set_cons_succ, i64_w, i32_w]
    rfl
  refine pure_ (i := 2) (N := some 17) (v := ?_) (a' := ?_) #[true, false, true, false, false, false, false, false, false, false, false, false, false, false, false] rfl rfl (by kernel_rfl) (fun _ _ _ h => h) (Or.inl ⟨by rfl, ?_⟩) ?_ ?_
  rotate_left
  · intro w'
    go_simp
    with_reducible rfl
  rotate_left
  · simp only [Act.put, List.setIfInBounds_toArray, List.set_cons_zero, List.set_cons_succ, i64_w, i32_w]
    rfl
  refine pure_ (i := 3) (N := some 18) (v := ?_) (a' := ?_) #[true, false, true, true, false, false, false, false, false, false, false, false, false, false, false] rfl rfl (by kernel_rfl) (fun _ _ _ h => h) (Or.inl ⟨by rfl, ?_⟩) ?_ ?_
  rotate_left
  · intro w'
    go_simp
    with_reducible rfl
  rotate_left
  · simp only [Act.put, List.setIfInBounds_toArray, List.set_cons_zero, List.set_cons_succ, i64_w, i32_w]
    rfl
  refine pure_ (i := 4) (N := some 19) (v := ?_) (a' := ?_) #[true, false, true, true, true, false, false, false, false, false, false, false, false, false, false] rfl rfl (by kernel_rfl) (fun _ _ _ h => h) (Or.inl ⟨by rfl, ?_⟩) ?_ ?_
  rotate_left
  · intro w'
    go_simp
    with_reducible rfl
  rotate_left
  · simp only [Act.put, List.setIfInBounds_toArray, List.set_cons_zero, List.set_cons_succ, i64_w, i32_w]
    rfl
  refine pure_ (i := 10) (N := some 25) (v := ?_) (a' := ?_) #[true, false, true, true, true, false, false, false, false, false, true, false, false, false, false] rfl rfl (by kernel_rfl) (fun _ _ _ h => h) (Or.inl ⟨by rfl, ?_⟩) ?_ ?_
  rotate_left
  · intro w'
    go_simp
    with_reducible rfl
  rotate_left
  · simp only [Act.put, List.setIfInBounds_toArray, List.set_cons_zero, List.set_cons_succ, i64_w, i32_w]
    rfl
  refine pure_ (i := 11) (N := some 26) (v := ?_) (a' := ?_) #[true, false, true, true, true, false, false, false, false, false, true, true, false, false, false] rfl rfl (by kernel_rfl) (fun _ _ _ h => h) (Or.inl ⟨by rfl, ?_⟩) ?_ ?_
  rotate_left
  · intro w'
    go_simp
    with_reducible rfl
  rotate_left
  · simp only [Act.put, List.setIfInBounds_toArray, List.set_cons_zero, List.set_cons_succ, i64_w, i32_w]
    rfl
  refine take_ (i := 5) (N := some 20) (v := ?_) (a' := ?_) #[true, false, true, true, true, true, false, false, false, false, true, true, false, false, false] rfl rfl (by kernel_rfl) (fun _ _ _ h => h) (Or.inl ⟨by rfl, ?_⟩) hHeld ?_ ?_
  rotate_left
  · intro w' s0
    go_simp
    with_reducible rfl
  rotate_left
  · simp only [Act.put, List.setIfInBounds_toArray, List.set_cons_zero, List.set_cons_succ, i64_w, i32_w]
    rfl
  refine pure_ (i := 6) (N := some 21) (v := ?_) (a' := ?_) #[true, false, true, true, true, true, true, false, false, false, true, true, false, false, false] rfl rfl (by kernel_rfl) (fun _ _ _ h => h) (Or.inl ⟨by rfl, ?_⟩) ?_ ?_
  rotate_left
  · intro w'
    go_simp
    with_reducible rfl
  rotate_left
  · simp only [Act.put, List.setIfInBounds_toArray, List.set_cons_zero, List.set_cons_succ, i64_w, i32_w]
    rfl
  refine pure_ (i := 7) (N := some 22) (v := ?_) (a' := ?_) #[true, false, true, true, true, true, true, true, false, false, true, true, false, false, false] rfl rfl (by kernel_rfl) (fun _ _ _ h => h) (Or.inl ⟨by rfl, ?_⟩) ?_ ?_
  rotate_left
  · intro w'
    go_simp
    with_reducible rfl
  rotate_left
  · simp only [Act.put, List.setIfInBounds_toArray, List.set_cons_zero, List.set_cons_succ, i64_w, i32_w]
    rfl
  refine pure_ (i := 8) (N := some 23) (v := ?_) (a' := ?_) #[true, false, true, true, true, true, true, true, true, false, true, true, false, false, false] rfl rfl (by kernel_rfl) (fun _ _ _ h => h) (Or.inl ⟨by rfl, ?_⟩) ?_ ?_
  rotate_left
  · intro w'
    go_simp
    with_reducible rfl
  rotate_left
  · simp only [Act.put, List.setIfInBounds_toArray, List.set_cons_zero, List.set_cons_succ, i64_w, i32_w]
    rfl
  refine join_ (σ := Nat × Nat × Option Addr × Nat) 2 #[true, true, true, true, true, true, true, true, true, true, true, true, true, false, false] (fun s_ => [(16, .slice (some ⟨s_.1, 0, none⟩) 1 1), (24, .slice (some ⟨s_.2.1, 0, none⟩) z z), (27, .slice s_.2.2.1 8 s_.2.2.2)]) (fun s_ w' => (w'.cell? ⟨gx, 9, none⟩ = some (.slice A r c)) ∧ Below w5.heap.size w5 w' ∧ RV w' (.slice (some ⟨s_.1, 0, none⟩) 1 1) 1 1 (bs [128]) ∧ RV w' (.slice (some ⟨s_.2.1, 0, none⟩) z z) z 1 (bs (List.replicate z 0)) ∧ RV w' (.slice s_.2.2.1 8 s_.2.2.2) 8 1 (bs (be8 (8 * L)))) ?_ ?_
  rotate_left
  · intro hCont
    refine three_ (i := 1) (j := 9) (k := 12) (Ni := some 16) (Nj := some 24) (Nk := some 27) #[true, true, true, true, true, true, true, true, true, false, true, true, false, false, false] #[true, false, true, true, true, true, true, true, true, true, true, true, false, false, false] #[true, false, true, true, true, true, true, true, true, false, true, true, true, false, false] rfl rfl rfl rfl rfl rfl (by kernel_rfl) (by decide) (by decide) (by decide) (fun K hK => ?_) (fun K hK => ?_) (fun K hK => ?_)
    · skip
      refine value_ (w1 := ?_) (v := ?_) (by rfl) rfl ?_ ?_
      rotate_left 2
      · go_simp
        constructor
        · rfl
        · rfl
      have BL_1 := Below.alloc BL BL.size (.cells #[.int .u8 128] 5)
      have R1_w5_1 : RV (World.alloc w5 (.cells #[.int .u8 128] 5)) (.slice (some ⟨w5.heap.size, 0, none⟩) 1 1) 1 1 (bs [128]) := RV_new w5 (bs [128]) 5 1 1 (0, 0) rfl (by decide)
      generalize World.alloc w5 _ = w5_1 at BL_1 R1_w5_1 ⊢
      refine hK.out _ _ (((BL_1.cell (p := ⟨gx, 9, none⟩) hgl).trans p9)) (fun hHeld => ?_)
      clear hK K
      refine norm_ (a' := ?_) ?_ ?_
      rotate_left
      · show Act.put _ (some 16) _ = _
        simp only [Act.put, List.setIfInBounds_toArray, List.set_cons_zero, List.set_cons_succ, i64_w, i32_w]
        rfl
      refine two_ (i := 9) (j := 12) (Ni := some 24) (Nj := some 27) #[true, true, true, true, true, true, true, true, true, true, true, true, false, false, false] #[true, true, true, true, true, true, true, true, true, false, true, true, true, false, false] rfl rfl rfl rfl (by kernel_rfl) (by decide) (by decide) (fun K hK => ?_) (fun K hK => ?_)
      · skip
        refine value_ (w1 := ?_) (v := ?_) (by rfl) rfl ?_ ?_
        rotate_left 2
        · go_simp
          constructor
          · rfl
          · rfl
        have BL_1_9 := Below.alloc BL_1 BL_1.size (.cells (madeCells #[.int .u8 0] z) 5)
        have R9_w5_1_9 : RV (World.alloc w5_1 (.cells (madeCells #[.int .u8 0] z) 5)) (.slice (some ⟨w5_1.heap.size, 0, none⟩) z z) z 1 (bs (List.replicate z 0)) := made_rv w5_1 z hzm
        have R1_w5_1_9 := RV.alloc R1_w5_1 (.cells (madeCells #[.int .u8 0] z) 5)
        generalize World.alloc w5_1 _ = w5_1_9 at BL_1_9 R9_w5_1_9 R1_w5_1_9 ⊢
        refine hK.out _ _ (((BL_1_9.cell (p := ⟨gx, 9, none⟩) hgl).trans p9)) (fun hHeld => ?_)
        clear hK K
        refine norm_ (a' := ?_) ?_ ?_
        rotate_left
        · show Act.put _ (some 24) _ = _
          simp only [Act.put, List.setIfInBounds_toArray, List.set_cons_zero, List.set_cons_succ, i64_w, i32_w]
          rfl
        refine one_ (i := 12) (N := some 27) #[true, true, true, true, true, true, true, true, true, true, true, true, true, false, false] rfl rfl (by kernel_rfl) (by decide) (fun K hK => ?_)
        refine goes_ Try.func32 (by kernel_rfl) rfl #[.int .u64 ((8 * L : Nat) : Int)] (by rfl) rfl rfl (by simp only [List.map_toArray, List.map_cons, List.map_nil]; rfl) ?_
        with_reducible refine (high_calls (8 * L) w5_1_9).mono ?_
        rintro e w5_1_9_12 ⟨v12, rfl, ho12, hd12⟩
        refine ⟨_, rfl, ?_⟩
        have R12_w5_1_9_12 := high_rv ho12
        have BL_1_9_12 := Below.trans BL_1_9 (hd12.mono BL_1_9.size)
        obtain ⟨A12, c12, rfl⟩ := RV.slice R12_w5_1_9_12
        have R1_w5_1_9_12 := RV.below R1_w5_1_9 hd12
        have R9_w5_1_9_12 := RV.below R9_w5_1_9 hd12
        refine hK.out _ _ (((BL_1_9_12.cell (p := ⟨gx, 9, none⟩) hgl).trans p9)) (fun hHeld => ?_)
        clear hK K
        refine norm_ (a' := ?_) ?_ ?_
        rotate_left
        · show Act.put _ (some 27) _ = _
          simp only [Act.put, List.setIfInBounds_toArray, List.set_cons_zero, List.set_cons_succ, i64_w, i32_w]
          rfl
        exact norm_ (by simp only [putAll, Act.put, List.setIfInBounds_toArray, List.set_cons_zero, List.set_cons_succ]) (hCont (w5.heap.size, w5_1.heap.size, A12, c12) _ ⟨((BL_1_9_12.cell (p := ⟨gx, 9, none⟩) hgl).trans p9), BL_1_9_12, R1_w5_1_9_12, R9_w5_1_9_12, R12_w5_1_9_12⟩)
      · skip
        refine goes_ Try.func32 (by kernel_rfl) rfl #[.int .u64 ((8 * L : Nat) : Int)] (by rfl) rfl rfl (by simp only [List.map_toArray, List.map_cons, List.map_nil]; rfl) ?_
        with_reducible refine (high_calls (8 * L) w5_1).mono ?_
        rintro e w5_1_12 ⟨v12, rfl, ho12, hd12⟩
        refine ⟨_, rfl, ?_⟩
        have R12_w5_1_12 := high_rv ho12
        have BL_1_12 := Below.trans BL_1 (hd12.mono BL_1.size)
        obtain ⟨A12, c12, rfl⟩ := RV.slice R12_w5_1_12
        have R1_w5_1_12 := RV.below R1_w5_1 hd12
        refine hK.out _ _ (((BL_1_12.cell (p := ⟨gx, 9, none⟩) hgl).trans p9)) (fun hHeld => ?_)
        clear hK K
        refine norm_ (a' := ?_) ?_ ?_
        rotate_left
        · show Act.put _ (some 27) _ = _
          simp only [Act.put, List.setIfInBounds_toArray, List.set_cons_zero, List.set_cons_succ, i64_w, i32_w]
          rfl
        refine one_ (i := 9) (N := some 24) #[true, true, true, true, true, true, true, true, true, true, true, true, true, false, false] rfl rfl (by kernel_rfl) (by decide) (fun K hK => ?_)
        refine value_ (w1 := ?_) (v := ?_) (by rfl) rfl ?_ ?_
        rotate_left 2
        · go_simp
          constructor
          · rfl
          · rfl
        have BL_1_12_9 := Below.alloc BL_1_12 BL_1_12.size (.cells (madeCells #[.int .u8 0] z) 5)
        have R9_w5_1_12_9 : RV (World.alloc w5_1_12 (.cells (madeCells #[.int .u8 0] z) 5)) (.slice (some ⟨w5_1_12.heap.size, 0, none⟩) z z) z 1 (bs (List.replicate z 0)) := made_rv w5_1_12 z hzm
        have R1_w5_1_12_9 := RV.alloc R1_w5_1_12 (.cells (madeCells #[.int .u8 0] z) 5)
        have R12_w5_1_12_9 := RV.alloc R12_w5_1_12 (.cells (madeCells #[.int .u8 0] z) 5)
        generalize World.alloc w5_1_12 _ = w5_1_12_9 at BL_1_12_9 R9_w5_1_12_9 R1_w5_1_12_9 R12_w5_1_12_9 ⊢
        refine hK.out _ _ (((BL_1_12_9.cell (p := ⟨gx, 9, none⟩) hgl).trans p9)) (fun hHeld => ?_)
        clear hK K
        refine norm_ (a' := ?_) ?_ ?_
        rotate_left
        · show Act.put _ (some 24) _ = _
          simp only [Act.put, List.setIfInBounds_toArray, List.set_cons_zero, List.set_cons_succ, i64_w, i32_w]
          rfl
        exact norm_ (by simp only [putAll, Act.put, List.setIfInBounds_toArray, List.set_cons_zero, List.set_cons_succ]) (hCont (w5.heap.size, w5_1_12.heap.size, A12, c12) _ ⟨((BL_1_12_9.cell (p := ⟨gx, 9, none⟩) hgl).trans p9), BL_1_12_9, R1_w5_1_12_9, R9_w5_1_12_9, R12_w5_1_12_9⟩)
    · skip
      refine value_ (w1 := ?_) (v := ?_) (by rfl) rfl ?_ ?_
      rotate_left 2
      · go_simp
        constructor
        · rfl
        · rfl
      have BL_9 := Below.alloc BL BL.size (.cells (madeCells #[.int .u8 0] z) 5)
      have R9_w5_9 : RV (World.alloc w5 (.cells (madeCells #[.int .u8 0] z) 5)) (.slice (some ⟨w5.heap.size, 0, none⟩) z z) z 1 (bs (List.replicate z 0)) := made_rv w5 z hzm
      generalize World.alloc w5 _ = w5_9 at BL_9 R9_w5_9 ⊢
      refine hK.out _ _ (((BL_9.cell (p := ⟨gx, 9, none⟩) hgl).trans p9)) (fun hHeld => ?_)
      clear hK K
      refine norm_ (a' := ?_) ?_ ?_
      rotate_left
      · show Act.put _ (some 24) _ = _
        simp only [Act.put, List.setIfInBounds_toArray, List.set_cons_zero, List.set_cons_succ, i64_w, i32_w]
        rfl
      refine two_ (i := 1) (j := 12) (Ni := some 16) (Nj := some 27) #[true, true, true, true, true, true, true, true, true, true, true, true, false, false, false] #[true, false, true, true, true, true, true, true, true, true, true, true, true, false, false] rfl rfl rfl rfl (by kernel_rfl) (by decide) (by decide) (fun K hK => ?_) (fun K hK => ?_)
      · skip
        refine value_ (w1 := ?_) (v := ?_) (by rfl) rfl ?_ ?_
        rotate_left 2
        · go_simp
          constructor
          · rfl
          · rfl
        have BL_9_1 := Below.alloc BL_9 BL_9.size (.cells #[.int .u8 128] 5)
        have R1_w5_9_1 : RV (World.alloc w5_9 (.cells #[.int .u8 128] 5)) (.slice (some ⟨w5_9.heap.size, 0, none⟩) 1 1) 1 1 (bs [128]) := RV_new w5_9 (bs [128]) 5 1 1 (0, 0) rfl (by decide)
        have R9_w5_9_1 := RV.alloc R9_w5_9 (.cells #[.int .u8 128] 5)
        generalize World.alloc w5_9 _ = w5_9_1 at BL_9_1 R1_w5_9_1 R9_w5_9_1 ⊢
        refine hK.out _ _ (((BL_9_1.cell (p := ⟨gx, 9, none⟩) hgl).trans p9)) (fun hHeld => ?_)
        clear hK K
        refine norm_ (a' := ?_) ?_ ?_
        rotate_left
        · show Act.put _ (some 16) _ = _
          simp only [Act.put, List.setIfInBounds_toArray, List.set_cons_zero, List.set_cons_succ, i64_w, i32_w]
          rfl
        refine one_ (i := 12) (N := some 27) #[true, true, true, true, true, true, true, true, true, true, true, true, true, false, false] rfl rfl (by kernel_rfl) (by decide) (fun K hK => ?_)
        refine goes_ Try.func32 (by kernel_rfl) rfl #[.int .u64 ((8 * L : Nat) : Int)] (by rfl) rfl rfl (by simp only [List.map_toArray, List.map_cons, List.map_nil]; rfl) ?_
        with_reducible refine (high_calls (8 * L) w5_9_1).mono ?_
        rintro e w5_9_1_12 ⟨v12, rfl, ho12, hd12⟩
        refine ⟨_, rfl, ?_⟩
        have R12_w5_9_1_12 := high_rv ho12
        have BL_9_1_12 := Below.trans BL_9_1 (hd12.mono BL_9_1.size)
        obtain ⟨A12, c12, rfl⟩ := RV.slice R12_w5_9_1_12
        have R9_w5_9_1_12 := RV.below R9_w5_9_1 hd12
        have R1_w5_9_1_12 := RV.below R1_w5_9_1 hd12
        refine hK.out _ _ (((BL_9_1_12.cell (p := ⟨gx, 9, none⟩) hgl).trans p9)) (fun hHeld => ?_)
        clear hK K
        refine norm_ (a' := ?_) ?_ ?_
        rotate_left
        · show Act.put _ (some 27) _ = _
          simp only [Act.put, List.setIfInBounds_toArray, List.set_cons_zero, List.set_cons_succ, i64_w, i32_w]
          rfl
        exact norm_ (by simp only [putAll, Act.put, List.setIfInBounds_toArray, List.set_cons_zero, List.set_cons_succ]) (hCont (w5_9.heap.size, w5.heap.size, A12, c12) _ ⟨((BL_9_1_12.cell (p := ⟨gx, 9, none⟩) hgl).trans p9), BL_9_1_12, R1_w5_9_1_12, R9_w5_9_1_12, R12_w5_9_1_12⟩)
      · skip
        refine goes_ Try.func32 (by kernel_rfl) rfl #[.int .u64 ((8 * L : Nat) : Int)] (by rfl) rfl rfl (by simp only [List.map_toArray, List.map_cons, List.map_nil]; rfl) ?_
        with_reducible refine (high_calls (8 * L) w5_9).mono ?_
        rintro e w5_9_12 ⟨v12, rfl, ho12, hd12⟩
        refine ⟨_, rfl, ?_⟩
        have R12_w5_9_12 := high_rv ho12
        have BL_9_12 := Below.trans BL_9 (hd12.mono BL_9.size)
        obtain ⟨A12, c12, rfl⟩ := RV.slice R12_w5_9_12
        have R9_w5_9_12 := RV.below R9_w5_9 hd12
        refine hK.out _ _ (((BL_9_12.cell (p := ⟨gx, 9, none⟩) hgl).trans p9)) (fun hHeld => ?_)
        clear hK K
        refine norm_ (a' := ?_) ?_ ?_
        rotate_left
        · show Act.put _ (some 27) _ = _
          simp only [Act.put, List.setIfInBounds_toArray, List.set_cons_zero, List.set_cons_succ, i64_w, i32_w]
          rfl
        refine one_ (i := 1) (N := some 16) #[true, true, true, true, true, true, true, true, true, true, true, true, true, false, false] rfl rfl (by kernel_rfl) (by decide) (fun K hK => ?_)
        refine value_ (w1 := ?_) (v := ?_) (by rfl) rfl ?_ ?_
        rotate_left 2
        · go_simp
          constructor
          · rfl
          · rfl
        have BL_9_12_1 := Below.alloc BL_9_12 BL_9_12.size (.cells #[.int .u8 128] 5)
        have R1_w5_9_12_1 : RV (World.alloc w5_9_12 (.cells #[.int .u8 128] 5)) (.slice (some ⟨w5_9_12.heap.size, 0, none⟩) 1 1) 1 1 (bs [128]) := RV_new w5_9_12 (bs [128]) 5 1 1 (0, 0) rfl (by decide)
        have R9_w5_9_12_1 := RV.alloc R9_w5_9_12 (.cells #[.int .u8 128] 5)
        have R12_w5_9_12_1 := RV.alloc R12_w5_9_12 (.cells #[.int .u8 128] 5)
        generalize World.alloc w5_9_12 _ = w5_9_12_1 at BL_9_12_1 R1_w5_9_12_1 R9_w5_9_12_1 R12_w5_9_12_1 ⊢
        refine hK.out _ _ (((BL_9_12_1.cell (p := ⟨gx, 9, none⟩) hgl).trans p9)) (fun hHeld => ?_)
        clear hK K
        refine norm_ (a' := ?_) ?_ ?_
        rotate_left
        · show Act.put _ (some 16) _ = _
          simp only [Act.put, List.setIfInBounds_toArray, List.set_cons_zero, List.set_cons_succ, i64_w, i32_w]
          rfl
        exact norm_ (by simp only [putAll, Act.put, List.setIfInBounds_toArray, List.set_cons_zero, List.set_cons_succ]) (hCont (w5_9_12.heap.size, w5.heap.size, A12, c12) _ ⟨((BL_9_12_1.cell (p := ⟨gx, 9, none⟩) hgl).trans p9), BL_9_12_1, R1_w5_9_12_1, R9_w5_9_12_1, R12_w5_9_12_1⟩)
    · skip
      refine goes_ Try.func32 (by kernel_rfl) rfl #[.int .u64 ((8 * L : Nat) : Int)] (by rfl) rfl rfl (by simp only [List.map_toArray, List.map_cons, List.map_nil]; rfl) ?_
      with_reducible refine (high_calls (8 * L) w5).mono ?_
      rintro e w5_12 ⟨v12, rfl, ho12, hd12⟩
      refine ⟨_, rfl, ?_⟩
      have R12_w5_12 := high_rv ho12
      have BL_12 := Below.trans BL (hd12.mono BL.size)
      obtain ⟨A12, c12, rfl⟩ := RV.slice R12_w5_12
      refine hK.out _ _ (((BL_12.cell (p := ⟨gx, 9, none⟩) hgl).trans p9)) (fun hHeld => ?_)
      clear hK K
      refine norm_ (a' := ?_) ?_ ?_
      rotate_left
      · show Act.put _ (some 27) _ = _
        simp only [Act.put, List.setIfInBounds_toArray, List.set_cons_zero, List.set_cons_succ, i64_w, i32_w]
        rfl
      refine two_ (i := 1) (j := 9) (Ni := some 16) (Nj := some 24) #[true, true, true, true, true, true, true, true, true, false, true, true, true, false, false] #[true, false, true, true, true, true, true, true, true, true, true, true, true, false, false] rfl rfl rfl rfl (by kernel_rfl) (by decide) (by decide) (fun K hK => ?_) (fun K hK => ?_)
      · skip
        refine value_ (w1 := ?_) (v := ?_) (by rfl) rfl ?_ ?_
        rotate_left 2
        · go_simp
          constructor
          · rfl
          · rfl
        have BL_12_1 := Below.alloc BL_12 BL_12.size (.cells #[.int .u8 128] 5)
        have R1_w5_12_1 : RV (World.alloc w5_12 (.cells #[.int .u8 128] 5)) (.slice (some ⟨w5_12.heap.size, 0, none⟩) 1 1) 1 1 (bs [128]) := RV_new w5_12 (bs [128]) 5 1 1 (0, 0) rfl (by decide)
        have R12_w5_12_1 := RV.alloc R12_w5_12 (.cells #[.int .u8 128] 5)
        generalize World.alloc w5_12 _ = w5_12_1 at BL_12_1 R1_w5_12_1 R12_w5_12_1 ⊢
        refine hK.out _ _ (((BL_12_1.cell (p := ⟨gx, 9, none⟩) hgl).trans p9)) (fun hHeld => ?_)
        clear hK K
        refine norm_ (a' := ?_) ?_ ?_
        rotate_left
        · show Act.put _ (some 16) _ = _
          simp only [Act.put, List.setIfInBounds_toArray, List.set_cons_zero, List.set_cons_succ, i64_w, i32_w]
          rfl
        refine one_ (i := 9) (N := some 24) #[true, true, true, true, true, true, true, true, true, true, true, true, true, false, false] rfl rfl (by kernel_rfl) (by decide) (fun K hK => ?_)
        refine value_ (w1 := ?_) (v := ?_) (by rfl) rfl ?_ ?_
        rotate_left 2
        · go_simp
          constructor
          · rfl
          · rfl
        have BL_12_1_9 := Below.alloc BL_12_1 BL_12_1.size (.cells (madeCells #[.int .u8 0] z) 5)
        have R9_w5_12_1_9 : RV (World.alloc w5_12_1 (.cells (madeCells #[.int .u8 0] z) 5)) (.slice (some ⟨w5_12_1.heap.size, 0, none⟩) z z) z 1 (bs (List.replicate z 0)) := made_rv w5_12_1 z hzm
        have R12_w5_12_1_9 := RV.alloc R12_w5_12_1 (.cells (madeCells #[.int .u8 0] z) 5)
        have R1_w5_12_1_9 := RV.alloc R1_w5_12_1 (.cells (madeCells #[.int .u8 0] z) 5)
        generalize World.alloc w5_12_1 _ = w5_12_1_9 at BL_12_1_9 R9_w5_12_1_9 R12_w5_12_1_9 R1_w5_12_1_9 ⊢
        refine hK.out _ _ (((BL_12_1_9.cell (p := ⟨gx, 9, none⟩) hgl).trans p9)) (fun hHeld => ?_)
        clear hK K
        refine norm_ (a' := ?_) ?_ ?_
        rotate_left
        · show Act.put _ (some 24) _ = _
          simp only [Act.put, List.setIfInBounds_toArray, List.set_cons_zero, List.set_cons_succ, i64_w, i32_w]
          rfl
        exact norm_ (by simp only [putAll, Act.put, List.setIfInBounds_toArray, List.set_cons_zero, List.set_cons_succ]) (hCont (w5_12.heap.size, w5_12_1.heap.size, A12, c12) _ ⟨((BL_12_1_9.cell (p := ⟨gx, 9, none⟩) hgl).trans p9), BL_12_1_9, R1_w5_12_1_9, R9_w5_12_1_9, R12_w5_12_1_9⟩)
      · skip
        refine value_ (w1 := ?_) (v := ?_) (by rfl) rfl ?_ ?_
        rotate_left 2
        · go_simp
          constructor
          · rfl
          · rfl
        have BL_12_9 := Below.alloc BL_12 BL_12.size (.cells (madeCells #[.int .u8 0] z) 5)
        have R9_w5_12_9 : RV (World.alloc w5_12 (.cells (madeCells #[.int .u8 0] z) 5)) (.slice (some ⟨w5_12.heap.size, 0, none⟩) z z) z 1 (bs (List.replicate z 0)) := made_rv w5_12 z hzm
        have R12_w5_12_9 := RV.alloc R12_w5_12 (.cells (madeCells #[.int .u8 0] z) 5)
        generalize World.alloc w5_12 _ = w5_12_9 at BL_12_9 R9_w5_12_9 R12_w5_12_9 ⊢
        refine hK.out _ _ (((BL_12_9.cell (p := ⟨gx, 9, none⟩) hgl).trans p9)) (fun hHeld => ?_)
        clear hK K
        refine norm_ (a' := ?_) ?_ ?_
        rotate_left
        · show Act.put _ (some 24) _ = _
          simp only [Act.put, List.setIfInBounds_toArray, List.set_cons_zero, List.set_cons_succ, i64_w, i32_w]
          rfl
        refine one_ (i := 1) (N := some 16) #[true, true, true, true, true, true, true, true, true, true, true, true, true, false, false] rfl rfl (by kernel_rfl) (by decide) (fun K hK => ?_)
        refine value_ (w1 := ?_) (v := ?_) (by rfl) rfl ?_ ?_
        rotate_left 2
        · go_simp
          constructor
          · rfl
          · rfl
        have BL_12_9_1 := Below.alloc BL_12_9 BL_12_9.size (.cells #[.int .u8 128] 5)
        have R1_w5_12_9_1 : RV (World.alloc w5_12_9 (.cells #[.int .u8 128] 5)) (.slice (some ⟨w5_12_9.heap.size, 0, none⟩) 1 1) 1 1 (bs [128]) := RV_new w5_12_9 (bs [128]) 5 1 1 (0, 0) rfl (by decide)
        have R12_w5_12_9_1 := RV.alloc R12_w5_12_9 (.cells #[.int .u8 128] 5)
        have R9_w5_12_9_1 := RV.alloc R9_w5_12_9 (.cells #[.int .u8 128] 5)
        generalize World.alloc w5_12_9 _ = w5_12_9_1 at BL_12_9_1 R1_w5_12_9_1 R12_w5_12_9_1 R9_w5_12_9_1 ⊢
        refine hK.out _ _ (((BL_12_9_1.cell (p := ⟨gx, 9, none⟩) hgl).trans p9)) (fun hHeld => ?_)
        clear hK K
        refine norm_ (a' := ?_) ?_ ?_
        rotate_left
        · show Act.put _ (some 16) _ = _
          simp only [Act.put, List.setIfInBounds_toArray, List.set_cons_zero, List.set_cons_succ, i64_w, i32_w]
          rfl
        exact norm_ (by simp only [putAll, Act.put, List.setIfInBounds_toArray, List.set_cons_zero, List.set_cons_succ]) (hCont (w5_12_9.heap.size, w5_12.heap.size, A12, c12) _ ⟨((BL_12_9_1.cell (p := ⟨gx, 9, none⟩) hgl).trans p9), BL_12_9_1, R1_w5_12_9_1, R9_w5_12_9_1, R12_w5_12_9_1⟩)
  rintro ⟨s1, s2, s3, s4⟩ w8 ⟨hS_, BL8, R1_8, R9_8, R12_8⟩
  have hHeld : w8.cell? ⟨gx, 9, none⟩ = some (.slice A r c) := hS_
  refine norm_ (a' := ?_) ?_ ?_
  rotate_left
  · simp only [putAll, Act.put, List.setIfInBounds_toArray, List.set_cons_zero, List.set_cons_succ]
    rfl
  refine one_ (i := 13) (N := some 28) #[true, true, true, true, true, true, true, true, true, true, true, true, true, true, false] rfl rfl (by kernel_rfl) (by decide) (fun K hK => ?_)
  refine value_ (w1 := ?_) (v := ?_) (by rfl) rfl ?_ ?_
  rotate_left 2
  · go_simp
    constructor
    · rfl
    · rfl
  have BL9 := Below.alloc BL8 BL8.size (.cells #[.slice (some ⟨s1, 0, none⟩) 1 1, .slice (some ⟨s2, 0, none⟩) z z, .slice s3 8 s4] 28)
  have HRB : RBs (World.alloc w8 (.cells #[.slice (some ⟨s1, 0, none⟩) 1 1, .slice (some ⟨s2, 0, none⟩) z z, .slice s3 8 s4] 28)) (.slice (some ⟨w8.heap.size, 0, none⟩) 3 3) [[128], List.replicate z 0, be8 (8 * L)] := rbs3 R1_8 R9_8 R12_8
  have hS9 := HS.now (HS.below hSx BL9)
  generalize World.alloc w8 _ = w9 at BL9 HRB hS9 ⊢
  refine hK.out _ _ (((BL9.cell (p := ⟨gx, 9, none⟩) hgl).trans p9)) (fun hHeld => ?_)
  clear hK K
  refine norm_ (a' := ?_) ?_ ?_
  rotate_left
  · show Act.put _ (some 28) _ = _
    simp only [Act.put, List.setIfInBounds_toArray, List.set_cons_zero, List.set_cons_succ, i64_w, i32_w]
    rfl
  refine last_ (i := 14) (N := some 29) #[true, true, true, true, true, true, true, true, true, true, true, true, true, true, true] rfl rfl (by kernel_rfl) (by decide) (fun K hK => ?_)
  refine goes_ Try.func18 (by kernel_rfl) rfl #[.pointer (some ⟨gx, 0, none⟩), .slice (some ⟨w8.heap.size, 0, none⟩) 3 3] (by rfl) rfl rfl (by simp only [List.map_toArray, List.map_cons, List.map_nil]; rfl) ?_
  with_reducible refine (write_calls gx _ M b _ w9 hS9 HRB hlen hn3).mono ?_
  rintro e w10 ⟨rfl, hS10⟩
  refine ⟨_, rfl, ?_⟩
  refine hK.out _ _ ?_
  clear hK K
  refine norm_ (a' := ?_) ?_ ?_
  rotate_left
  · show Act.put _ (some 29) _ = _
    simp only [Act.put, List.setIfInBounds_toArray, List.set_cons_zero, List.set_cons_succ, i64_w, i32_w]
    rfl
  refine done_ (by kernel_rfl) ?_
  rw [AP.out] at hS10
  obtain ⟨hSq, hgx5, hr5, hB5⟩ := AR.out
  have hk10 := HS.grown hS10
  have hr9 := blk_below hr5 BL9
  have hr10 := blk_grown hr9 hk10 (fun e => by rw [Option.some.injEq] at e; omega)
  have hB10 : Below w.heap.size w w10 := (hB5.trans (BL9.mono hB5.size)).grown hk10 (Nat.le_trans hB5.size BL9.size) (fun k e => by rw [Option.some.injEq] at e; omega)
  obtain ⟨H', A', c', hBk, hE', hH', hR', hb'⟩ := hS10
  have hpos : 0 < (padM M).length / 64 := by rw [padM_length]; unfold padN; omega
  have hX := hH' hpos
  have hXd : H' = digW M := hX
  have hX8 : H'.length = 8 := hBk.2.1
  have hrg := hBk.range
  have hrg2 : (w10.alloc (.cells z32 26)).rangeAt gx 0 (u32s H') := fun j v hj => by
    have h1 := hrg j v hj
    exact (((Below.refl w10.heap.size w10).alloc (Nat.le_refl _) _).cell (World.block_lt_of_cell? _ _ h1)).trans h1
  have hs8 : (Try.prog.info? 36).map (·.size) = some (u32s H').length := by rw [u32s_length, hX8]; exact size8
  have hgs := blk_alloc hr10 (.cells z32 26)
  have hgs2 := heap_alloc_new w10 (.cells z32 26)
  have hB11 := hB10.alloc hB10.size (.cells z32 26)
  have hlt10 := blk_lt hr10
  have A1 := Aside0.mk hgs
  have A2 := Aside0.mk hgs2
  have A3 := Aside0.mk hB11
  have AX := Aside0.mk hXd
  have AX8 := Aside0.mk hX8
  clear hr10 hB10 hBk hE' hH' hR' hX hXd hrg hgs hgs2 hB11 hr9 hr5 hB5 BL9 hSx hSq hX8

  go_wp2_with (refine wpList_load_mid rfl 36 (.tmp 32) rfl gx 0 rfl (u32s H') _ hrg2 Try.underlying36 rfl hs8 ?_)
  have hK0 : KS w (w10.alloc (.cells z32 26)) w10.heap.size H' 0 := ⟨A2.out, A1.out, A3.out, hlt10, AX8.out⟩
  have hK1 : KS w _ w10.heap.size H' 0 := hK0
  obtain ⟨gs, hgs⟩ : ∃ x, w10.heap.size = x := ⟨_, rfl⟩
  rw [hgs] at hK0 ⊢
  generalize hcs : H' = X at hK0 AX ⊢
  go_loopw [34] (fun s34 wr => ∃ k : Nat, k ≤ 8 ∧ s34 = .int .i64 (k : Int) ∧ KS w wr gs X k) (fun s34 _ => 8 - (intOf s34).toNat)
  case atStart => exact ⟨0, Nat.zero_le _, rfl, hK0⟩
  case round =>
    clear hK0 hK1 hcs hgs A1 A2 A3 AX8 hmk hrz hrw h8 p9 hgl hgx5 hlen hzm hlt10 hrg2 hs8
    obtain ⟨k, hk, rfl, hK⟩ := hrel
    have hXl := hK.2.2.2.2
    by_cases hlt : k < 8
    · obtain ⟨y, hy⟩ : ∃ y, X.getD k 0 = y := ⟨_, rfl⟩
      have hcell : (u32s X).toArray[k]? = some (.int .u32 (y : Int)) := by
        have := u32s_at X [] k (by omega)
        rw [List.append_nil, hy] at this
        exact this
      have hix : ∀ w' : World, Sem.run Try.prog (Instr.index 36 (.agg (u32s X).toArray) (.int .i64 (k : Int))) w' = .ok (.int .u32 (y : Int)) w' := fun w' => index_w8 _ k y hlt hcell w'
      have hylt : y < 4294967296 := by rw [← hy, AX.out]; exact digW_lt M k
      have hu : IntKind.u64.wrap (y : Int) = (y : Int) := wrap_u64n y (by omega)
      have k0 : (0 : Int) ≤ (k : Int) := by omega
      have k1 : (k : Int) < 8 := by omega
      have k2 : wrap64 (4 * (k : Int)) = 4 * (k : Int) := by unfold wrap64; omega
      have k3 : (0 : Int) ≤ 4 * (k : Int) := by omega
      have k4 : 4 * (k : Int) ≤ 32 := by omega
      have k5 : (4 * (k : Int)).toNat = 4 * k := by omega
      have k6 : ¬ (4 * k = 32) := by omega
      have k7 : ¬ (32 = 4 * k) := by omega
      have AY := Aside0.mk hy
      have KS12 := hK.drew
      generalize u32s X = UX at hix
      clear hcell hXl
      go_wp2_with fail
      refine start_ (n := 8) (S := fun w' => True) (ds := [7]) #[false, false, false, false, false, false, false, false] (by kernel_rfl) rfl rfl trivial (fun hHeld => ?_)
      generalize wr.drew = w12 at KS12 hHeld ⊢
      refine pure_ (i := 0) (N := some 38) (v := ?_) (a' := ?_) #[true, false, false, false, false, false, false, false] rfl rfl (by kernel_rfl) (fun _ _ _ h => h) (Or.inl ⟨by rfl, ?_⟩) ?_ ?_
      rotate_left
      · intro w'
        go_simp
        with_reducible rfl
      rotate_left
      · simp only [Act.put, List.setIfInBounds_toArray, List.set_cons_zero, List.set_cons_succ, i64_w, i32_w]
        rfl
      refine pure_ (i := 1) (N := some 39) (v := ?_) (a' := ?_) #[true, true, false, false, false, false, false, false] rfl rfl (by kernel_rfl) (fun _ _ _ h => h) (Or.inl ⟨by rfl, ?_⟩) ?_ ?_
      rotate_left
      · intro w'
        go_simp
        with_reducible rfl
      rotate_left
      · simp only [Act.put, List.setIfInBounds_toArray, List.set_cons_zero, List.set_cons_succ, i64_w, i32_w]
        rfl
      refine pure_ (i := 2) (N := some 40) (v := ?_) (a' := ?_) #[true, true, true, false, false, false, false, false] rfl rfl (by kernel_rfl) (fun _ _ _ h => h) (Or.inl ⟨by rfl, ?_⟩) ?_ ?_
      rotate_left
      · intro w'
        go_simp
        with_reducible rfl
      rotate_left
      · simp only [Act.put, List.setIfInBounds_toArray, List.set_cons_zero, List.set_cons_succ, i64_w, i32_w]
        rfl
      refine pure_ (i := 3) (N := some 41) (v := ?_) (a' := ?_) #[true, true, true, true, false, false, false, false] rfl rfl (by kernel_rfl) (fun _ _ _ h => h) (Or.inl ⟨by rfl, ?_⟩) ?_ ?_
      rotate_left
      · intro w'
        go_simp
        with_reducible rfl
      rotate_left
      · simp only [Act.put, List.setIfInBounds_toArray, List.set_cons_zero, List.set_cons_succ, i64_w, i32_w]
        rfl
      refine pure_ (i := 4) (N := some 42) (v := ?_) (a' := ?_) #[true, true, true, true, true, false, false, false] rfl rfl (by kernel_rfl) (fun _ _ _ h => h) (Or.inl ⟨by rfl, ?_⟩) ?_ ?_
      rotate_left
      · intro w'
        go_simp
        with_reducible rfl
      rotate_left
      · simp only [Act.put, List.setIfInBounds_toArray, List.set_cons_zero, List.set_cons_succ, i64_w, i32_w]
        rfl
      refine one_ (i := 5) (N := some 43) #[true, true, true, true, true, true, false, false] rfl rfl (by kernel_rfl) (by decide) (fun K hK => ?_)
      refine goes_ Try.func32 (by kernel_rfl) rfl #[.int .u64 (y : Int)] (by rfl) rfl rfl (by simp only [List.map_toArray, List.map_cons, List.map_nil]; rfl) ?_
      with_reducible refine (high_calls y w12).mono ?_
      rintro e w13 ⟨v13, rfl, ho13, hd13⟩
      refine ⟨_, rfl, ?_⟩
      have R13 := high_rv ho13
      have KS13 := KS12.below hd13
      obtain ⟨A13, c13, rfl⟩ := RV.slice R13
      obtain ⟨b13, o13, rfl, hc13⟩ := RV.some8 R13
      have k13 : ¬ (c13 = 4) := by omega
      have j13 : (4 : Int) ≤ (c13 : Int) := by omega
      have hcp := KS13.copy hlt AY.out R13
      refine hK.out _ _ trivial (fun hHeld => ?_)
      clear hK K
      refine norm_ (a' := ?_) ?_ ?_
      rotate_left
      · show Act.put _ (some 43) _ = _
        simp only [Act.put, List.setIfInBounds_toArray, List.set_cons_zero, List.set_cons_succ, i64_w, i32_w]
        rfl
      refine pure_ (i := 6) (N := some 44) (v := ?_) (a' := ?_) #[true, true, true, true, true, true, true, false] rfl rfl (by kernel_rfl) (fun _ _ _ h => h) (Or.inl ⟨by rfl, ?_⟩) ?_ ?_
      rotate_left
      · intro w'
        go_simp
        with_reducible rfl
      rotate_left
      · simp only [Act.put, List.setIfInBounds_toArray, List.set_cons_zero, List.set_cons_succ, i64_w, i32_w]
        rfl
      refine last_ (i := 7) (N := some 45) #[true, true, true, true, true, true, true, true] rfl rfl (by kernel_rfl) (by decide) (fun K hK => ?_)
      refine if_wanted (by rfl) (Lib.wp_copy_run _ _ _ _ _ rfl _ _ rfl rfl (hcp _).1 ?_)
      refine hK.out _ _ ?_
      clear hK K
      refine norm_ (a' := ?_) ?_ ?_
      rotate_left
      · show Act.put _ (some 45) _ = _
        simp only [Act.put, List.setIfInBounds_toArray, List.set_cons_zero, List.set_cons_succ, i64_w, i32_w]
        rfl
      refine done_ (by kernel_rfl) ?_
      have hKS := (hcp 0).2
      clear hcp KS13 R13 ho13 hd13 KS12
      go_wp2_with fail
      go_roundw
      case rel => exact ⟨k + 1, by omega, by go_num, hKS⟩
      case measure => simp [intOf]; omega
    · have hk8 : k = 8 := by omega
      subst hk8
      have hrow : rowS X 8 = (bs (X.flatMap be4)).toArray := by unfold rowS; rw [List.take_of_length_le (by omega)]; simp
      have hg := hK.1
      have hr := hK.2.1
      have hb := hK.2.2.1
      have hlt2 := hK.2.2.2.1
      rw [hrow] at hg
      have hdig : X.flatMap be4 = digest M := by rw [AX.out]; rfl
      rw [hdig] at hg
      have hsz : (bs (digest M)).length = 32 := by rw [bs_length, digest_length]
      have hs32 : (Try.prog.info? 26).map (·.size) = some (bs (digest M)).length := by rw [hsz]; exact size32
      have hs32a : (Try.prog.info? 26).map (·.size) = some (bs (digest M)).toArray.size := by rw [List.size_toArray]; exact hs32
      have hza : z32.size = (bs (digest M)).toArray.size := by show 32 = _; rw [List.size_toArray, hsz]
      have hone : (bs (digest M)).toArray.all (·.oneCell') = true := all_oneCell_toArray (bs_one _)
      have hrd : ∀ j u, (bs (digest M))[j]? = some u → wr.cell? ⟨gs, 0 + j, none⟩ = some u := fun j u hj => by rw [blk_cell hg (0 + j), Nat.zero_add, List.getElem?_toArray]; exact hj
      have hfin := setRow_heap wr w.heap.size z32 (bs (digest M)).toArray _ _ hr
      have hbl : Below w.heap.size w (wr.setRow w.heap.size (bs (digest M)).toArray) := hb.trans ⟨rfl, rfl, rfl, by simp, fun i hi => setRow_other _ _ _ _ (by omega)⟩
      have AF := Aside0.mk hfin
      have AL := Aside0.mk hbl
      have AG := Aside0.mk hg
      clear hfin hbl hrow hg hb hK hdig hsz
      generalize hD : bs (digest M) = D at hs32 hs32a hza hone hrd AF AL
      go_wp2_with (first | (refine wpList_load_at 26 (.tmp 5) gs 0 D _ hrd Try.underlying26 rfl hs32 rfl rfl rfl ?_) | (refine wpList_store_row rfl 26 (.tmp 2) (.tmp 47) rfl w.heap.size D.toArray rfl rfl 26 _ hr hs32a hza hone ?_))

      refine bodyPost_ret (v := .agg D.toArray) (results_cell_row (p := 2) (ty := 26) rfl _ _ w.heap.size 26 D.toArray (0, 0) _ rfl AF.out Try.underlying26 rfl hs32a) rfl ?_
      rw [← hD]
      rw [← hD] at AL
      exact ⟨rfl, AL.out⟩

theorem hsum_nil (w : World) : Calls Try.prog 19 #[.pointer none] w fun e w' => e = .returned (.agg (bs (digest [])).toArray) ∧ Below w.heap.size w w' := hsum_none [] rfl w (by decide)
set_option maxRecDepth 100000 in
theorem sum_calls (lv : Value) (l : List (List UInt8)) (w : World) (hlv : RBs w lv l) (hl : l.flatten.length ≤ 35184372088832) (hn : l.length ≤ 1000000000) :
    Calls Try.prog 13 #[lv] w fun e w' => e = .returned (.agg (bs (digest l.flatten)).toArray) ∧ Below w.heap.size w w' := by
  have hsz : (bs (digest l.flatten)).length = 32 := by rw [bs_length, digest_length]
  have hs32a : (Try.prog.info? 26).map (·.size) = some (bs (digest l.flatten)).toArray.size := by rw [List.size_toArray, hsz]; exact size32
  have hza : z32.size = (bs (digest l.flatten)).toArray.size := by show 32 = _; rw [List.size_toArray, hsz]
  have hone : (bs (digest l.flatten)).toArray.all (·.oneCell') = true := all_oneCell_toArray (bs_one _)
  obtain ⟨F, hF⟩ : ∃ F, l.flatten = F := ⟨_, rfl⟩
  have hn0 : (0 : Nat) ≤ w.heap.size := Nat.zero_le _
  rw [hF] at hsz hs32a hza hone hl ⊢
  have AHF := Aside0.mk hF
  clear hF
  generalize hD : bs (digest F) = D at hs32a hza hone
  have AD := Aside0.mk hD
  clear hD hsz
  go_enter Try.func13, Try.ntmps13
  go_wp2_with (first
    | (go_at_call 17; refine (new_calls _).mono ?_; rintro e w1 ⟨rfl, hN1, hb1⟩; have hr1 := blk_below (heap_alloc_new w _) hb1; have hbw1 : Below w.heap.size w w1 := ((Below.refl w.heap.size w).alloc (Nat.le_refl _) _).trans (hb1.mono (by simp)); have AR1 := Aside0.mk (p := w1.heap[w.heap.size]? = some (.cells z32 26 (0, 0))) hr1; clear hr1)
    | (go_at_call 18; refine (write_calls _ _ [] 0 l _ (by have h0 := hN1; simp at h0; exact h0) (hlv.below hbw1) (by rw [List.nil_append, AHF.out]; omega) hn).mono ?_; rintro e w2 ⟨rfl, hS2⟩; rw [List.nil_append, AHF.out] at hS2; have hr2 := blk_grown AR1.out hS2.grown (fun e => by rw [Option.some.injEq] at e; omega); have hbw2 : Below w.heap.size w w2 := hbw1.grown hS2.grown hbw1.size (fun k e => by rw [Option.some.injEq] at e; omega); have AR2 := Aside0.mk hr2; clear hr2)
    | (go_at_call 19; refine (hsum_calls _ F _ hS2.now hl).mono ?_; rintro e w3 ⟨rfl, hb3⟩; have hr3 := blk_below AR2.out hb3; have hbw3 : Below w.heap.size w w3 := hbw2.trans (hb3.mono hbw2.size); have hfin := setRow_heap w3 w.heap.size z32 D.toArray _ _ hr3; have AF := Aside0.mk hfin; clear hfin; rw [AD.out])
    | (refine wpList_store_row rfl 26 (.tmp 2) (.tmp 9) rfl w.heap.size D.toArray rfl rfl 26 _ hr3 hs32a hza hone ?_))
  refine bodyPost_ret (v := .agg D.toArray) (results_cell_row (p := 2) (ty := 26) rfl _ _ w.heap.size 26 D.toArray (0, 0) _ rfl AF.out Try.underlying26 rfl hs32a) rfl ?_
  exact ⟨rfl, hbw3.trans ⟨rfl, rfl, rfl, by simp, fun i hi => setRow_other _ _ _ _ (by omega)⟩⟩

end Go.Proofs.Ythhandkckbnafaa
