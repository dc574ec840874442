/-
  The walks of sha.New, (*Hash).Len, (*Hash).Copy, high; a nil hash takes nothing.
-/
import Derived.Test.YthhandkckbnafaaShaHash
import Derived.Test.YthhandkckbnafaaKd
set_option linter.unusedVariables false
set_option linter.unusedSimpArgs false
namespace Go.Proofs.Ythhandkckbnafaa
open Go.RowKit Go.Proofs.YthhandkckbnafaaZ.ZA Go.Proofs.YthhandkckbnafaaW.PrintWords Go.Proofs.YthhandkckbnafaaW.PrintLast Go.Proofs.YthhandkckbnafaaW.PrintMore
theorem new_calls (w : World) : Calls Try.prog 17 #[] w fun e w' => e = .returned (.pointer (some ⟨w.heap.size, 0, none⟩)) ∧ HS w' w' w.heap.size [] 0 ∧ Below w.heap.size w w' := by
  have hH : HS (w.alloc (.cells (u32s [0, 0, 0, 0, 0, 0, 0, 0] ++ tl2 0 none 0 0).toArray 39)) (w.alloc (.cells (u32s [0, 0, 0, 0, 0, 0, 0, 0] ++ tl2 0 none 0 0).toArray 39)) w.heap.size [] 0 :=
    ⟨_, none, 0, ⟨heap_alloc_new w _, rfl, World.grownBy.refl _ _⟩, ⟨_, _, _, _, _, _, _, _, rfl, by decide, by decide, by decide, by decide, by decide, by decide, by decide, by decide⟩, fun h => absurd h (by decide), RV_nil _ 1, by decide⟩
  have hB := (Below.refl w.heap.size w).alloc (Nat.le_refl _) (.cells (u32s [0, 0, 0, 0, 0, 0, 0, 0] ++ tl2 0 none 0 0).toArray 39)
  have A1 := Aside0.mk hH
  have A2 := Aside0.mk hB
  clear hH hB
  go_enter Try.func17, Try.ntmps17
  go_wp2_with fail
  go_ret
  exact ⟨rfl, A1.out, A2.out⟩
theorem write_nil (lv : Value) (w : World) : Calls Try.prog 18 #[.pointer none, lv] w fun e w' => e = .returned (.tuple #[]) ∧ Below w.heap.size w w' := by
  go_enter Try.func18, Try.ntmps18
  go_wp2_with fail
  refine bodyPost_ret (results_none rfl _ _ _) rfl ?_
  exact ⟨rfl, Below.refl _ _⟩
theorem len_nil (w : World) : Calls Try.prog 21 #[.pointer none] w fun e w' => e = .returned (.int .u64 0) ∧ Below w.heap.size w w' := by
  go_enter Try.func21, Try.ntmps21
  go_wp2_with fail
  go_ret
  exact ⟨rfl, Below.refl _ _⟩
theorem copy_nil (w : World) : Calls Try.prog 20 #[.pointer none] w fun e w' => e = .returned (.pointer none) ∧ Below w.heap.size w w' := by
  go_enter Try.func20, Try.ntmps20
  go_wp2_with fail
  go_ret
  exact ⟨rfl, Below.refl _ _⟩
theorem wrap_u64n (n : Nat) (h : n < 18446744073709551616) : IntKind.u64.wrap (n : Int) = (n : Int) := by
  have e : ∀ z : Int, IntKind.u64.wrap z = z % 18446744073709551616 := fun z => by simp [IntKind.wrap, IntKind.bits, IntKind.signed]
  rw [e]; omega
theorem len_calls (g : Nat) (M : List UInt8) (b : Nat) (w : World) (h : HS w w g M b) (hl : M.length ≤ 70368744177664) : Calls Try.prog 21 #[.pointer (some ⟨g, 0, none⟩)] w fun e w' => e = .returned (.int .u64 (M.length : Int)) ∧ Below w.heap.size w w' := by
  obtain ⟨H, A, c, hB, hE, hH, hR, hb⟩ := h
  obtain ⟨n, hn⟩ : ∃ n, M.length - 64 * b = n := ⟨_, rfl⟩
  obtain ⟨L, hL⟩ : ∃ L, M.length = L := ⟨_, rfl⟩
  rw [hn] at hB hR
  rw [hL] at hn hb hl ⊢
  have p8 := hB.drew.c8
  have p9 := hB.drew.c9
  have e1 : IntKind.u64.wrap (64 * (b : Int)) = 64 * (b : Int) := by have := wrap_u64n (64 * b) (by omega); simpa using this
  have e2 : IntKind.u64.wrap (n : Int) = (n : Int) := wrap_u64n n (by omega)
  have e3 : IntKind.u64.wrap (64 * (b : Int) + (n : Int)) = (L : Int) := by have := wrap_u64n L (by omega); rw [show (64 * (b : Int) + (n : Int)) = (L : Int) by omega]; exact this
  have hbl := (Below.refl w.heap.size w).drew
  clear hB hR hE hH hn hb hL
  go_enter Try.func21, Try.ntmps21
  go_wp2_with fail
  refine start_ (n := 13) (S := fun w' => w'.cell? ⟨g, 8, none⟩ = some (.int .u64 (b : Int)) ∧ w'.cell? ⟨g, 9, none⟩ = some (.slice A n c)) (ds := []) #[false, false, false, false, false, false, false, false, false, false, false, false, false] (by kernel_rfl) rfl rfl ⟨p8, p9⟩ (fun hHeld => ?_)
  refine pure_ (i := 0) (N := some 5) (v := ?_) (a' := ?_) #[true, false, false, false, false, false, false, false, false, false, false, false, false] rfl rfl (by kernel_rfl) (fun _ _ _ h => h) (Or.inl ⟨by rfl, ?_⟩) ?_ ?_
  rotate_left
  · intro w'
    go_simp
    with_reducible rfl
  rotate_left
  · simp only [Act.put, List.setIfInBounds_toArray, List.set_cons_zero, List.set_cons_succ, i64_w, i32_w]
    rfl
  refine pure_ (i := 1) (N := some 6) (v := ?_) (a' := ?_) #[true, true, false, false, false, false, false, false, false, false, false, false, false] rfl rfl (by kernel_rfl) (fun _ _ _ h => h) (Or.inl ⟨by rfl, ?_⟩) ?_ ?_
  rotate_left
  · intro w'
    go_simp
    with_reducible rfl
  rotate_left
  · simp only [Act.put, List.setIfInBounds_toArray, List.set_cons_zero, List.set_cons_succ, i64_w, i32_w]
    rfl
  refine pure_ (i := 2) (N := some 7) (v := ?_) (a' := ?_) #[true, true, true, false, false, false, false, false, false, false, false, false, false] rfl rfl (by kernel_rfl) (fun _ _ _ h => h) (Or.inl ⟨by rfl, ?_⟩) ?_ ?_
  rotate_left
  · intro w'
    go_simp
    with_reducible rfl
  rotate_left
  · simp only [Act.put, List.setIfInBounds_toArray, List.set_cons_zero, List.set_cons_succ, i64_w, i32_w]
    rfl
  refine pure_ (i := 5) (N := some 10) (v := ?_) (a' := ?_) #[true, true, true, false, false, true, false, false, false, false, false, false, false] rfl rfl (by kernel_rfl) (fun _ _ _ h => h) (Or.inl ⟨by rfl, ?_⟩) ?_ ?_
  rotate_left
  · intro w'
    go_simp
    with_reducible rfl
  rotate_left
  · simp only [Act.put, List.setIfInBounds_toArray, List.set_cons_zero, List.set_cons_succ, i64_w, i32_w]
    rfl
  refine pure_ (i := 6) (N := some 11) (v := ?_) (a' := ?_) #[true, true, true, false, false, true, true, false, false, false, false, false, false] rfl rfl (by kernel_rfl) (fun _ _ _ h => h) (Or.inl ⟨by rfl, ?_⟩) ?_ ?_
  rotate_left
  · intro w'
    go_simp
    with_reducible rfl
  rotate_left
  · simp only [Act.put, List.setIfInBounds_toArray, List.set_cons_zero, List.set_cons_succ, i64_w, i32_w]
    rfl
  refine pure_ (i := 7) (N := some 12) (v := ?_) (a' := ?_) #[true, true, true, false, false, true, true, true, false, false, false, false, false] rfl rfl (by kernel_rfl) (fun _ _ _ h => h) (Or.inl ⟨by rfl, ?_⟩) ?_ ?_
  rotate_left
  · intro w'
    go_simp
    with_reducible rfl
  rotate_left
  · simp only [Act.put, List.setIfInBounds_toArray, List.set_cons_zero, List.set_cons_succ, i64_w, i32_w]
    rfl
  refine take_ (i := 3) (N := some 8) (v := ?_) (a' := ?_) #[true, true, true, true, false, true, true, true, false, false, false, false, false] rfl rfl (by kernel_rfl) (fun _ _ _ h => h) (Or.inl ⟨by rfl, ?_⟩) hHeld ?_ ?_
  rotate_left
  · rintro w' ⟨s0, s1⟩
    go_simp
    with_reducible rfl
  rotate_left
  · simp only [Act.put, List.setIfInBounds_toArray, List.set_cons_zero, List.set_cons_succ, i64_w, i32_w]
    rfl
  refine pure_ (i := 4) (N := some 9) (v := ?_) (a' := ?_) #[true, true, true, true, true, true, true, true, false, false, false, false, false] rfl rfl (by kernel_rfl) (fun _ _ _ h => h) (Or.inl ⟨by rfl, ?_⟩) ?_ ?_
  rotate_left
  · intro w'
    go_simp
    with_reducible rfl
  rotate_left
  · simp only [Act.put, List.setIfInBounds_toArray, List.set_cons_zero, List.set_cons_succ, i64_w, i32_w]
    rfl
  refine take_ (i := 8) (N := some 13) (v := ?_) (a' := ?_) #[true, true, true, true, true, true, true, true, true, false, false, false, false] rfl rfl (by kernel_rfl) (fun _ _ _ h => h) (Or.inl ⟨by rfl, ?_⟩) hHeld ?_ ?_
  rotate_left
  · rintro w' ⟨s0, s1⟩
    go_simp
    with_reducible rfl
  rotate_left
  · simp only [Act.put, List.setIfInBounds_toArray, List.set_cons_zero, List.set_cons_succ, i64_w, i32_w]
    rfl
  refine pure_ (i := 9) (N := some 14) (v := ?_) (a' := ?_) #[true, true, true, true, true, true, true, true, true, true, false, false, false] rfl rfl (by kernel_rfl) (fun _ _ _ h => h) (Or.inl ⟨by rfl, ?_⟩) ?_ ?_
  rotate_left
  · intro w'
    go_simp
    with_reducible rfl
  rotate_left
  · simp only [Act.put, List.setIfInBounds_toArray, List.set_cons_zero, List.set_cons_succ, i64_w, i32_w]
    rfl
  refine pure_ (i := 10) (N := some 15) (v := ?_) (a' := ?_) #[true, true, true, true, true, true, true, true, true, true, true, false, false] rfl rfl (by kernel_rfl) (fun _ _ _ h => h) (Or.inl ⟨by rfl, ?_⟩) ?_ ?_
  rotate_left
  · intro w'
    go_simp
    with_reducible rfl
  rotate_left
  · simp only [Act.put, List.setIfInBounds_toArray, List.set_cons_zero, List.set_cons_succ, i64_w, i32_w]
    rfl
  refine pure_ (i := 11) (N := some 16) (v := ?_) (a' := ?_) #[true, true, true, true, true, true, true, true, true, true, true, true, false] rfl rfl (by kernel_rfl) (fun _ _ _ h => h) (Or.inl ⟨by rfl, ?_⟩) ?_ ?_
  rotate_left
  · intro w'
    go_simp
    with_reducible rfl
  rotate_left
  · simp only [Act.put, List.setIfInBounds_toArray, List.set_cons_zero, List.set_cons_succ, i64_w, i32_w]
    rfl
  refine pure_ (i := 12) (N := some 2) (v := ?_) (a' := ?_) #[true, true, true, true, true, true, true, true, true, true, true, true, true] rfl rfl (by kernel_rfl) (fun _ _ _ h => h) (Or.inl ⟨by rfl, ?_⟩) ?_ ?_
  rotate_left
  · intro w'
    go_simp
    with_reducible rfl
  rotate_left
  · simp only [Act.put, List.setIfInBounds_toArray, List.set_cons_zero, List.set_cons_succ, i64_w, i32_w]
    rfl
  refine done_ (by kernel_rfl) ?_
  go_wp2_with fail
  go_ret
  exact ⟨rfl, hbl⟩

theorem copy_calls (g : Nat) (M : List UInt8) (b : Nat) (w : World) (h : HS w w g M b) (hl : M.length ≤ 70368744177664) : Calls Try.prog 20 #[.pointer (some ⟨g, 0, none⟩)] w fun e w' => e = .returned (.pointer (some ⟨w.heap.size, 0, none⟩)) ∧ HS w' w' w.heap.size M b ∧ Below w.heap.size w w' := by
  obtain ⟨H, A, c, hB, hE, hH, hR, hb⟩ := h
  obtain ⟨n, hn⟩ : ∃ n, M.length - 64 * b = n := ⟨_, rfl⟩
  rw [hn] at hB hR
  have hwhole : ∀ j u, (u32s H ++ tl2 b A n c)[j]? = some u → w.cell? ⟨g, 0 + j, none⟩ = some u := fun j u hj => by rw [blk_cell hB.1 (0 + j), Nat.zero_add, List.getElem?_toArray]; exact hj
  have hlen : (u32s H ++ tl2 b A n c).length = 10 := by rw [List.length_append, u32s_length, hB.2.1]; rfl
  have hone : ∀ u ∈ u32s H ++ tl2 b A n c, u.oneCell' = true := fun u hu => by
    rcases List.mem_append.1 hu with hu | hu
    · exact u32s_one H u hu
    · simp [tl2] at hu; rcases hu with rfl | rfl <;> rfl
  have hsz : (Try.prog.info? 39).map (·.size) = some (u32s H ++ tl2 b A n c).length := by rw [hlen]; kernel_rfl
  have hnb : (M.drop (64 * b)).length = n := by rw [List.length_drop]; exact hn
  have hbl0 := (Below.refl w.heap.size w).alloc (Nat.le_refl _) (.cells (u32s H ++ tl2 b A n c).toArray 39)
  have hR1 := hR.below hbl0
  have hB1 := hB.below hbl0
  have hN1 : Blk (w.alloc (.cells (u32s H ++ tl2 b A n c).toArray 39)) (w.alloc (.cells (u32s H ++ tl2 b A n c).toArray 39)) w.heap.size H b A n c := ⟨heap_alloc_new w _, hB.2.1, World.grownBy.refl _ _⟩
  have p9 := hB1.c9
  have AW := Aside0.mk hwhole
  have A1 := Aside0.mk hone
  have AS := Aside0.mk hsz
  have AL := Aside0.mk hlen
  have hR2 : RV (w.alloc (.cells (u32s H ++ tl2 b A n c).toArray 39)) (.slice A n c) (M.drop (64 * b)).length 1 (bs (M.drop (64 * b))) := by rw [hnb]; exact hR1
  have AR := Aside0.mk hR2
  clear hR2
  have AB := Aside0.mk hbl0
  have AN1 := Aside0.mk hN1
  have ANB := Aside0.mk hnb
  have AH := Aside0.mk hH
  have AE := Aside0.mk hE
  have ANN := Aside0.mk hn
  have hn2 : n ≤ 140737488355328 := by omega
  clear hwhole hone hsz hlen hR1 hbl0 hN1 hnb hH hE hn hB hB1 hR
  generalize hcs : u32s H ++ tl2 b A n c = cs at AW A1 AS AL AR AB AN1 p9
  have AC := Aside0.mk hcs
  clear hcs
  go_enter Try.func20, Try.ntmps20
  go_wp2_with (first | (refine wpList_load_at 39 (.tmp 7) g 0 cs _ AW.out Try.underlying39 rfl AS.out rfl rfl rfl ?_) | (refine wpList_store_new 39 (.tmp 3) (.tmp 8) _ cs AS.out (AL.out.symm ▸ by rfl) A1.out rfl rfl rfl rfl ?_) | (go_at_call 33; refine (clone_bytes _ (M.drop (64 * b)) _ AR.out (by rw [ANB.out]; exact hn2)).mono ?_; rintro e w1 ⟨v1, rfl, ho1, hb1⟩; have hB1 := AN1.out.below hb1; have k9 := hB1.c9; have k8 := hB1.fz 9; rw [ANB.out] at ho1; obtain ⟨A1, c1, rfl⟩ := (RV_own ho1).slice; have AO := Aside0.mk ho1; have AB1 := Aside0.mk hB1; have ABL := Aside0.mk hb1; clear ho1 hB1 hb1))
  go_ret
  have hR3 := AB1.out.bytes (RV_own AO.out) (grown_setCell w1 w.heap.size 9 (.slice A1 n c1))
  have hB3 := AB1.out.set9 A1 n c1
  have hn3 := ANN.out
  refine ⟨rfl, ⟨H, A1, c1, by rw [hn3]; exact ⟨hB3.1, hB3.2.1, World.grownBy.refl _ _⟩, AE.out, AH.out, by rw [hn3]; exact hR3, hb⟩, ?_⟩
  exact (AB.out.trans (ABL.out.mono AB.out.size)).setCell (Nat.le_refl _) _
/-- A number's eight bytes. -/
def be8 (x : Nat) : List UInt8 := [56, 48, 40, 32, 24, 16, 8, 0].map fun s => UInt8.ofNat (x / 2 ^ s)
theorem shr64 (x s : Nat) (h : s ≤ 64) : shr .u64 (x : Int) (s : Int) % 256 = ((x / 2 ^ s % 256 : Nat) : Int) := by
  unfold shr
  rw [Int.toNat_natCast, Nat.min_eq_left (by show s ≤ 64; exact h)]
  simp
theorem ofB_be8 (x : Nat) : ofB (be8 x) = [((x / 2 ^ 56 % 256 : Nat) : Int), ((x / 2 ^ 48 % 256 : Nat) : Int), ((x / 2 ^ 40 % 256 : Nat) : Int), ((x / 2 ^ 32 % 256 : Nat) : Int), ((x / 2 ^ 24 % 256 : Nat) : Int), ((x / 2 ^ 16 % 256 : Nat) : Int), ((x / 2 ^ 8 % 256 : Nat) : Int), ((x / 2 ^ 0 % 256 : Nat) : Int)] := by
  simp [ofB, be8]
theorem high_f (x : Nat) : sha_high.f 12 (x : Int) = some (ofB (be8 x)) := by
  rw [ofB_be8]
  have s56 := shr64 x 56 (by decide)
  have s48 := shr64 x 48 (by decide)
  have s40 := shr64 x 40 (by decide)
  have s32 := shr64 x 32 (by decide)
  have s24 := shr64 x 24 (by decide)
  have s16 := shr64 x 16 (by decide)
  have s8 := shr64 x 8 (by decide)
  have s0 := shr64 x 0 (by decide)
  have w0 : ∀ z : Int, -100 ≤ z → z ≤ 100 → wrap64 z = z := fun z h1 h2 => by unfold wrap64; omega
  have v0 : wrap64 (56 - 8 : Int) = 48 := by unfold wrap64; omega
  have v1 : wrap64 (48 - 8 : Int) = 40 := by unfold wrap64; omega
  have v2 : wrap64 (40 - 8 : Int) = 32 := by unfold wrap64; omega
  have v3 : wrap64 (32 - 8 : Int) = 24 := by unfold wrap64; omega
  have v4 : wrap64 (24 - 8 : Int) = 16 := by unfold wrap64; omega
  have v5 : wrap64 (16 - 8 : Int) = 8 := by unfold wrap64; omega
  have v6 : wrap64 (8 - 8 : Int) = 0 := by unfold wrap64; omega
  have v7 : wrap64 (0 - 8 : Int) = -8 := by unfold wrap64; omega
  unfold sha_high.f
  simp only [Int.ofNat_eq_natCast, Int.cast_ofNat_Int] at s56 s48 s40 s32 s24 s16 s8 s0
  simp only [sha_high.l0, v0, v1, v2, v3, v4, v5, v6, v7, s56, s48, s40, s32, s24, s16, s8, s0]
  rfl
theorem high_calls (x : Nat) (w : World) : Calls Try.prog 32 #[.int .u64 (x : Int)] w fun e w' => ∃ v, e = .returned v ∧ w'.ownsRow w.heap.size 5 1 v (be8 x).length (bs (be8 x)) ∧ Below w.heap.size w w' := by
  refine (sha_high.calls 12 (x : Int) _ w (high_f x)).mono ?_
  rintro e w' ⟨v, rfl, hr, hb⟩
  refine ⟨v, rfl, ?_, hb⟩
  have := Kd.own_of_R hr
  rw [ofB_length] at this
  rw [bs_ofB]
  exact this
end Go.Proofs.Ythhandkckbnafaa
