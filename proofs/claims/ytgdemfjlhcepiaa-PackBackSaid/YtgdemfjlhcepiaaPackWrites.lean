/-
  PackWrites: the walk.
-/
import Derived.Test.YtgdemfjlhcepiaaPackOnly
import Derived.Test.YtgdemfjlhcepiaaRefB
import Derived.Test.YtgdemfjlhcepiaaRefS
import Derived.Test.YtgdemfjlhcepiaaClr
import Derived.Test.YtgdemfjlhcepiaaBitten
import Derived.Deep.AppendLies
set_option linter.unusedVariables false
set_option linter.unusedSimpArgs false
namespace Go.Proofs.Ytgdemfjlhcepiaa
open Go.RowKit
attribute [local go_sem] eq_bytes_nil
def sumB (l : List (List UInt8)) : Nat := (l.map fun x => 50 + x.length).sum
theorem sumB_succ (l : List (List UInt8)) (k : Nat) (h : k < l.length) : sumB (l.take (k + 1)) = sumB (l.take k) + (50 + l[k].length) := by
  unfold sumB
  rw [List.take_succ_eq_append_getElem h, List.map_append, List.sum_append]
  simp
theorem encB_length (x : List UInt8) : (encB x).length ≤ 9 + x.length := by
  unfold encB
  rw [List.length_append, encN_length]
  have := nb_le x.length
  omega
theorem encBs_sum (l : List (List UInt8)) : (encBs l).length ≤ sumB l := by
  induction l with
  | nil => exact Nat.le_refl _
  | cons x r ih =>
    have e : encBs (x :: r) = encB x ++ encBs r := rfl
    have e2 : sumB (x :: r) = 50 + x.length + sumB r := by unfold sumB; rw [List.map_cons, List.sum_cons]
    have := encB_length x
    rw [e, e2, List.length_append]
    omega
theorem len_sum (l : List (List UInt8)) : 50 * l.length ≤ sumB l := by
  induction l with
  | nil => exact Nat.le_refl _
  | cons x r ih =>
    have e2 : sumB (x :: r) = 50 + x.length + sumB r := by unfold sumB; rw [List.map_cons, List.sum_cons]
    rw [e2, List.length_cons]
    omega
theorem encTs_map (l : List (List UInt8)) : encTs (l.map st) = encBs l := by
  induction l with
  | nil => rfl
  | cons x r ih =>
    have e : encBs (x :: r) = encB x ++ encBs r := rfl
    have e2 : encTs ((x :: r).map st) = encB (tb (st x)) ++ encTs (r.map st) := rfl
    rw [e, e2, tb_st, ih]
theorem ss_snoc (l : List (List UInt8)) (k : Nat) (h : k < l.length) : ss ((l.take (k + 1)).map st) = ss ((l.take k).map st) ++ [.string (st l[k])] := by
  rw [List.take_succ_eq_append_getElem h, List.map_append]
  simp [ss]
theorem own_alloc {w : World} {base : Nat} {e : TypeId} {size : Nat} {v : Value} {n : Nat} {xs : List Value} (h : w.ownsRow base e size v n xs) (o : Obj) : (w.alloc o).ownsRow base e size v n xs := own_below h ((Below.refl _ _).alloc (Nat.le_refl _) _)
theorem info_str : (Try.prog.info? 9).map (fun i => (i.zero, i.size, i.bytes)) = some (some (.string ByteArray.empty), 1, 16) := by kernel_rfl
theorem sevens : bs [7, 7, 7] = [.int .u8 7, .int .u8 7, .int .u8 7] := rfl
set_option maxHeartbeats 4000000 in
set_option maxRecDepth 100000 in
theorem writes_calls (v0 : Value) (xs : List UInt8) (v1 : Value) (l1 : List Nat) (v2 : Value) (l2 : List (List UInt8)) (v3 : Value) (l3 : List (List UInt8)) (w : World)
    (h0 : RV w v0 xs.length 1 (bs xs)) (z0 : xs.length ≤ 140737488355328) (h1 : RV w v1 l1.length 1 (nums64 l1)) (w1 : ∀ x ∈ l1, x < 18446744073709551616) (h2 : RBs w v2 l2) (hin : ∀ x ∈ l2, x.length ≤ 140737488355328) (h3 : RV w v3 l3.length 32 (l3.flatMap bs)) (h32 : ∀ x ∈ l3, x.length = 32) :
    Calls Try.prog 7 #[v0, v1, v2, v3] w fun e w' => e = .returned (.bool true) ∧ Below w.heap.size w w' := by
  obtain ⟨vs, hvs, hel⟩ := id h2
  obtain ⟨A0, c0, rfl⟩ := h0.slice
  obtain ⟨A1, c1, rfl⟩ := h1.slice
  obtain ⟨A2, c2, rfl⟩ := hvs.slice
  obtain ⟨A3, c3, rfl⟩ := h3.slice
  have m1 := h1.max
  have m2 := hvs.max
  have m3 := h3.max
  go_enter Try.func7, Try.ntmps7
  go_wp2
  go_loop [9, 10] (fun n i => ∃ k s : Nat, k ≤ l2.length ∧ Hid (s = xs.length + sumB (l2.take k)) ∧ i = .int .i64 (k : Int) ∧ n = .int .i64 (s : Int)) (fun _ i => l2.length - (intOf i).toNat)
  case atStart => exact ⟨0, xs.length, Nat.zero_le _, by show _ = _; simp [sumB], rfl, rfl⟩
  case round =>
    obtain ⟨k, s, hk, hs, rfl, rfl⟩ := hrel
    by_cases hn : s ≤ 50000
    · by_cases hlt : k < l2.length
      · obtain ⟨b, o, u, rfl, hu, hcell, hbw⟩ := hvs.at_ k hlt
        have hux := hel k u l2[k] hu (List.getElem?_eq_getElem hlt)
        have hul := hin l2[k] (List.getElem_mem hlt)
        have hsucc := sumB_succ l2 k hlt
        obtain ⟨x, HX⟩ := hidden l2[k]
        rw [HX.out] at hux hul hsucc
        have HS := hid hsucc
        clear hsucc
        obtain ⟨A', c', rfl⟩ := hux.slice
        go_wp2
        go_round
        case rel => exact ⟨k + 1, s + (50 + x.length), by omega, by show _ = _; rw [HS.out, hs.out]; omega, by go_num, by go_num⟩
        case measure => simp [intOf]; omega
      · have hks : sumB (l2.take k) = sumB l2 := by rw [List.take_of_length_le (by omega)]
        have hs' := hs.out
        rw [hks] at hs'
        have hB1 := encBs_sum l2
        have hBl : (xs ++ encBs l2).length ≤ 50000 := by rw [List.length_append]; omega
        have hxl : xs.length ≤ 50000 := by omega
        have hl2 : l2.length ≤ 1000 := by have := len_sum l2; omega
        clear hs' hks hs hB1
        by_cases hb1 : 1000 < l1.length
        · go_wp2_with (go_at_call 10; refine (awake_calls _).mono ?_; rintro e w1 ⟨rfl, hb⟩)
          go_ret
          exact ⟨rfl, hb⟩
        by_cases hb3 : 1000 < l3.length
        · go_wp2_with (go_at_call 10; refine (awake_calls _).mono ?_; rintro e w1 ⟨rfl, hb⟩)
          go_ret
          exact ⟨rfl, hb⟩
        have hO := World.ownsRow_made (base := w.heap.size) (e := 5) (size := 1) w #[] 0 (Nat.le_refl _) (by decide) rfl
        have hr := h0.alloc (.cells #[] 5)
        go_wp2_with (first | (at_builtin; refine wpList_append_rv (.tmp 51) (.tmp 52) 23 w.heap.size 5 (.int .u8 0) 1 1 Try.underlying23 info_u8 hO hr (bs_one xs) (by omega) (by simp) rfl rfl rfl rfl rfl (by decide) (by decide) ?_; intro v5 w5 hown5 hb5 hg5; have ho5 := own_len hown5 (Nat.zero_add _) (List.nil_append _); have hb5' : Below w.heap.size w w5 := ((Below.refl _ _).alloc (Nat.le_refl _) _).trans hb5; clear hO hr hown5 hb5 hg5; have hz5 := hb5'.size) | (at_builtin; refine wpList_append_rv (.tmp 53) (.tmp 54) 23 w.heap.size 5 (.int .u8 0) 1 1 Try.underlying23 info_u8 (own_alloc ho5 _) (RV_new w5 (bs [7, 7, 7]) 5 3 1 (0, 0) rfl (by decide)) (bs_one _) (by omega) (by simp; omega) rfl rfl rfl rfl rfl (by decide) (by decide) ?_; intro v6 w6 hown6 hb6 hg6; have ho6 := own_len (n' := xs.length + 3) (ys := bs (xs ++ [7, 7, 7])) hown6 rfl (by rw [bs_append]); have hb6' : Below w.heap.size w w6 := (hb5'.alloc (by omega) _).trans hb6; clear hown6 hb6 hg6))
        obtain ⟨g6, cap6, rfl, hge6, hlt6⟩ := ho6.form (by omega)
        have hz6 := hb6'.size
        clear ho5 hb5' hz5
        go_loopw [12, 13] (fun v i wr => ∃ k : Nat, k ≤ l2.length ∧ i = .int .i64 (k : Int) ∧ wr.ownsRow w6.heap.size 9 1 v k (ss ((l2.take k).map st)) ∧ Below w6.heap.size w6 wr) (fun _ i _ => l2.length - (intOf i).toNat)
        case atStart => exact ⟨0, Nat.zero_le _, rfl, ⟨rfl, .inl ⟨rfl, rfl⟩⟩, Below.refl _ _⟩
        case round =>
          obtain ⟨k, hk, rfl, hown, hb⟩ := hrel
          have hbw := below_then hb6' hz6 hb
          by_cases hlt : k < l2.length
          · obtain ⟨b, o, u, rfl, hu, hcell, hbl⟩ := hvs.at_ k hlt
            have hux := (hel k u l2[k] hu (List.getElem?_eq_getElem hlt)).below hbw
            have hsn := ss_snoc l2 k hlt
            obtain ⟨x, HX⟩ := hidden l2[k]
            rw [HX.out] at hux hsn
            have HS := hid hsn
            clear hsn
            obtain ⟨A', c', rfl⟩ := hux.slice
            have hcell2 : wr.cell? ⟨b, o + k, none⟩ = some (.slice A' x.length c') := (hbw.cell hbl).trans hcell
            clear hcell
            have hcv := conv_bytes hux
            have hwr6 := hb.size
            go_wp2_with (at_builtin; refine wpList_append_one (.tmp 62) (.tmp 68) 56 w6.heap.size 9 (.string ByteArray.empty) 16 Try.underlying56 info_str hown (.string (st x)) rfl (by omega) (by omega) rfl rfl rfl rfl rfl (by decide) ?_; intro v7 w7 hown7 hb7)
            go_roundw
            case rel => exact ⟨k + 1, by omega, by go_num, by rw [HS.out]; exact hown7, hb.trans hb7⟩
            case measure => simp [intOf]; omega
          · have htk : l2.take k = l2 := List.take_of_length_le (by omega)
            have hkl : k = l2.length := by omega
            rw [htk] at hown
            clear htk hk
            subst hkl
            obtain ⟨A8, c8, rfl⟩ := (RV_own hown).slice
            have hT : RV wr (.slice A8 l2.length c8) (l2.map st).length 1 (ss (l2.map st)) := by rw [List.length_map]; exact RV_own hown
            have ho7 := own_below ho6 hb
            have hP : RV wr (.slice (some ⟨g6, 0, none⟩) xs.length cap6) xs.length 1 (bs xs) := by
              have h := RV_own ho7
              have e3 : xs.length + 3 = (xs ++ [7, 7, 7]).length := by simp
              rw [e3] at h
              have h := RV_take h (t := xs.length) (by simp)
              rwa [List.take_left] at h
            have hcap : xs.length ≤ cap6 := hP.cap
            have hci : (xs.length : Int) ≤ (cap6 : Int) := by omega
            have hwz := hbw.size
            have hwz6 := hb.size
            have hE1 := encNs_le l1
            go_wp2_with fail
            refine (num_calls _ _ xs l1 _ hP (h1.below hbw) w1 (by omega)).mono ?_
            rintro e wA ⟨vA, rfl, hoA, hbA⟩
            have hbwA := below_size hbw hbA
            go_wp2_with fail
            refine (blob_calls _ _ xs l2 _ (hP.below hbA) (h2.below hbwA) (by omega)).mono ?_
            rintro e wB ⟨vB, rfl, hoB, hbB⟩
            have hbAB := below_size hbA hbB
            have hbwB := below_size hbw hbAB
            go_wp2_with fail
            refine (text_calls _ _ xs (l2.map st) _ (hP.below hbAB) (hT.below hbAB) (by rw [encTs_map]; omega)).mono ?_
            rintro e wC ⟨vC, rfl, hoC, hbC⟩
            have hbAC := below_size hbAB hbC
            have hbwC := below_size hbw hbAC
            go_wp2_with fail
            refine (sums_calls _ _ xs l3 _ (hP.below hbAC) (h3.below hbwC) h32 (by omega)).mono ?_
            rintro e wD ⟨vD, rfl, hoD, hbD⟩
            have hbAD := below_size hbAC hbD
            have hbwD := below_size hbw hbAD
            have hoA' := own_below hoA (below_size (below_size hbB hbC) hbD)
            have hoB' := own_below hoB (below_size hbC hbD)
            have hoC' := own_below hoC hbD
            have hoX := own_below ho7 hbAD
            have cX := conv_bytes (n := xs.length + 3) (by have := RV_own hoX; exact this)
            have c0' := conv_bytes (h0.below hbwD)
            have hst : st xs ++ (⟨#[7, 7, 7]⟩ : ByteArray) = st (xs ++ [7, 7, 7]) := by rw [← st_tb (st xs ++ (⟨#[7, 7, 7]⟩ : ByteArray))]; congr 1
            have hss : (st xs).size = xs.length := st_size xs
            obtain ⟨wE, hcl, hbE, hgE⟩ := clear_own Try.underlying23 zero_u8 hoX
            have n6 : ∀ (v : Value) (B : Nat) (n : Nat) (zs : List Value), wD.ownsRow B 5 1 v n zs → g6 < B → v.ownBlock = none ∨ v.ownBlock ≠ (Value.slice (some ⟨g6, 0, none⟩) (xs.length + 3) cap6).ownBlock := fun v B n zs h hB => .inr fun e => by have := (h.lt g6 e).1; omega
            go_wp2_with fail
            have hbwE : Below w.heap.size w wE := hbwD.trans hbE
            have hoAE := hoA'.kept hgE (n6 _ _ _ _ hoA' (by omega))
            have hoBE := hoB'.kept hgE (n6 _ _ _ _ hoB' (by have := hbA.size; omega))
            have hoCE := hoC'.kept hgE (n6 _ _ _ _ hoC' (by have := hbAB.size; omega))
            have hoDE := hoD.kept hgE (n6 _ _ _ _ hoD (by have := hbAC.size; omega))
            have hownD := own_below hown hbAD
            have hTE : RV wE (.slice A8 l2.length c8) (l2.map st).length 1 (ss (l2.map st)) := by
              have := hownD.kept hgE (.inr fun e => by have := (hownD.lt g6 e).1; omega)
              rw [List.length_map]; exact RV_own this
            have hET : encTs (l2.map st) = encBs l2 := encTs_map l2
            rw [hET] at hoCE
            have hETH := hid hET
            have hlT : (xs ++ encTs (l2.map st)).length ≤ 140737488355328 := by rw [hET]; omega
            clear hET n6 hcl hbE hgE cX c0' hoA' hoB' hoC' hoX hoA hoB hoC hoD hst hss hbwD hbwC hbwB hbwA hbAD hbAC hbAB hbA hbB hbC hbD hT hown hownD ho7 hP
            have hlN : xs.length + (encNs l1).length ≤ 140737488355328 := by omega
            have hlB : (xs ++ encBs l2).length ≤ 140737488355328 := by omega
            have hlS : xs.length + 32 * l3.length ≤ 140737488355328 := by omega
            have kA : ∀ w', Below wE.heap.size wE w' → Sem.run Try.prog (convert 23 9 vA) w' = .ok (.string (st (xs ++ encNs l1))) w' := fun w' h => conv_bytes ((RV_own hoAE).below h)
            have kB : ∀ w', Below wE.heap.size wE w' → Sem.run Try.prog (convert 23 9 vB) w' = .ok (.string (st (xs ++ encBs l2))) w' := fun w' h => conv_bytes ((RV_own hoBE).below h)
            have kC : ∀ w', Below wE.heap.size wE w' → Sem.run Try.prog (convert 23 9 vC) w' = .ok (.string (st (xs ++ encBs l2))) w' := fun w' h => conv_bytes ((RV_own hoCE).below h)
            have kD : ∀ w', Below wE.heap.size wE w' → Sem.run Try.prog (convert 23 9 vD) w' = .ok (.string (st (xs ++ l3.flatten))) w' := fun w' h => conv_bytes ((RV_own hoDE).below h)
            have q0 := h0.below hbwE
            have q1 := h1.below hbwE
            have q2 := h2.below hbwE
            have q3 := h3.below hbwE
            go_cut [125] (fun t wc2 => t = .bool false ∧ Below wE.heap.size wE wc2)
            case first =>
              go_region_held (fun w' => Below wE.heap.size wE w') (first | exact Below.refl _ _ | exact (Below.refl _ _).drew | assumption) (first | (go_at_call 22; refine (rnums_calls _ _ xs l1 _ (q0.below (by assumption)) (q1.below (by assumption)) w1 hlN).mono ?_; rintro e x1 ⟨u1, rfl, hu1, hx1⟩; have e1 := conv_bytes (RV_own hu1); have hy1 : Below wE.heap.size wE x1 := below_size (by assumption) hx1) | (go_at_call 23; refine (rblobs_calls _ _ xs l2 _ (q0.below (by assumption)) (q2.below (by assumption)) hlB).mono ?_; rintro e x2 ⟨u2, rfl, hu2, hx2⟩; have e2 := conv_bytes (RV_own hu2); have hy2 : Below wE.heap.size wE x2 := below_size (by assumption) hx2) | (go_at_call 24; refine (rsums_calls _ _ xs l3 _ (q0.below (by assumption)) (q3.below (by assumption)) h32 hlS).mono ?_; rintro e x3 ⟨u3, rfl, hu3, hx3⟩; have e3 := conv_bytes (RV_own hu3); have hy3 : Below wE.heap.size wE x3 := below_size (by assumption) hx3))
              go_wp2_with fail
              go_meet
              case rel => exact ⟨rfl, by assumption⟩
            case rest =>
              clear kA kB kD
              obtain ⟨rfl, hbF⟩ := hcut
              rename World => wF
              have r0 := q0.below hbF
              have rT := hTE.below hbF
              have kC' : ∀ w', Below wF.heap.size wF w' → Sem.run Try.prog (convert 23 9 vC) w' = .ok (.string (st (xs ++ encBs l2))) w' := fun w' h => kC w' (below_size hbF h)
              clear kC
              go_wp2_with fail
              go_region_held (fun w' => Below wF.heap.size wF w') (first | exact Below.refl _ _ | exact (Below.refl _ _).drew | assumption) (first | (go_at_call 25; refine (rtexts_calls _ _ xs (l2.map st) _ (r0.below (by assumption)) (rT.below (by assumption)) hlT).mono ?_; rintro e x4 ⟨u4, rfl, hu4, hx4⟩; have e4 := conv_bytes (RV_own hu4); rw [hETH.out] at e4; have hy4 : Below wF.heap.size wF x4 := below_size (by assumption) hx4) | (go_at_call 10; refine (awake_calls _).mono ?_; rintro e w9 ⟨rfl, hb9⟩; have hbc9 : Below wF.heap.size wF w9 := below_size (by assumption) hb9))
              go_wp2_with fail
              go_ret
              exact ⟨rfl, below_then hbwE hbwE.size (below_size hbF (by assumption))⟩
    · go_wp2_with (go_at_call 10; refine (awake_calls _).mono ?_; rintro e w1 ⟨rfl, hb⟩)
      all_goals
        go_ret
        exact ⟨rfl, hb⟩
theorem nums_nat (a : List Int) (h : ∀ n ∈ a, (Lit.int .u64 n).wf = true) : ∃ l : List Nat, a.length = l.length ∧ ns .u64 a = nums64 l ∧ ∀ x ∈ l, x < 18446744073709551616 := by
  refine ⟨a.map Int.toNat, by simp, ?_, fun x hx => ?_⟩
  · unfold ns nums64
    rw [List.map_map]
    refine List.map_congr_left fun z hz => ?_
    have hw := u64_wf (h z hz)
    simp only [Function.comp_apply, Value.int.injEq, true_and]
    show z = ((z.toNat : Nat) : Int)
    omega
  · obtain ⟨z, hz, rfl⟩ := List.mem_map.1 hx
    have hw := u64_wf (h z hz)
    omega
theorem packWrites_walk (v0 : Value) (xs : List UInt8) (v1 : Value) (a : List Int) (v2 : Value) (l2 : List (List UInt8)) (v3 : Value) (l3 : List (List UInt8)) (w : World)
    (h0 : RV w v0 xs.length 1 (bs xs)) (z0 : xs.length ≤ 140737488355328) (h1 : RV w v1 a.length 1 (ns .u64 a)) (z1 : a.length ≤ 140737488355328) (w1 : ∀ n ∈ a, (Lit.int .u64 n).wf = true) (h2 : RBs w v2 l2) (hin : ∀ x ∈ l2, x.length ≤ 140737488355328) (h3 : RV w v3 l3.length 32 (l3.flatMap bs)) (h32 : ∀ x ∈ l3, x.length = 32) :
    Calls Try.prog 7 #[v0, v1, v2, v3] w fun e w' => e = .returned (.bool true) ∧ Below w.heap.size w w' := by
  obtain ⟨l, e1, e2, e3⟩ := nums_nat a w1
  rw [e1, e2] at h1
  exact writes_calls v0 xs v1 l v2 l2 v3 l3 w h0 z0 h1 e3 h2 hin h3 h32
end Go.Proofs.Ytgdemfjlhcepiaa
