/-
  PackOnly: the walk.
-/
import Derived.Deep.RegionHeldLaw
import Derived.Test.YtgdemfjlhcepiaaPackE
import Derived.Test.YtgdemfjlhcepiaaPackP
import Derived.Test.YtgdemfjlhcepiaaQ
import Derived.Test.YtgdemfjlhcepiaaO
import Derived.Deep.DeepCutAuto
import Derived.Deep.CutBlock
import Derived.Deep.RegionHeld3
set_option linter.unusedVariables false
set_option linter.unusedSimpArgs false
namespace Go.Proofs.Ytgdemfjlhcepiaa
open Go.RowKit
attribute [local go_sem] eq_bytes_nil
variable {kb : Nat}
theorem info_u64 : (Try.prog.info? 22).map (fun i => (i.zero, i.size, i.bytes)) = some (some (.int .u64 0), 1, 8) := by kernel_rfl
theorem nums64_snoc (l : List Nat) (x : Nat) : nums64 l ++ [.int .u64 (Int.ofNat x)] = nums64 (l ++ [x]) := by simp [nums64]
theorem encNs_snoc (l : List Nat) (x : Nat) : encNs (l ++ [x]) = encNs l ++ encN x := by simp [encNs]
theorem own_ne_cut {w : World} {base : Nat} {e : TypeId} {size : Nat} {v : Value} {n : Nat} {xs : List Value} (h : w.ownsRow base e size v n xs) {p : Nat} (hp : p < base) : v.ownBlock = none ∨ v.ownBlock ≠ cutBlk (.pointer (some ⟨p, 0, none⟩)) := by
  cases hv : v.ownBlock with
  | none => exact .inl rfl
  | some k => exact .inr fun e => by simp [cutBlk] at e; have := own_ge h k hv; omega
theorem CutV.low {w w' : World} {p B : Nat} {xs : List UInt8} {bad : Bool} (h : CutV w (.pointer (some ⟨p, 0, none⟩)) kb xs bad) (hb : Below B w w') (hp : p < B) (hk : kb < B) : CutV w' (.pointer (some ⟨p, 0, none⟩)) kb xs bad := by
  rcases h with ⟨h, _⟩ | ⟨p', h1, A, c, h3, h4, h5⟩
  · simp at h
  · simp only [Value.pointer.injEq, Option.some.injEq, Addr.mk.injEq, and_true] at h1
    subst h1
    exact .inr ⟨p, rfl, A, c, by rw [hb.block p hp]; exact h3, h4.keepB (fun hx => h5 (by intro e; subst e; exact hx rfl)) fun _ => hb.block kb hk, h5⟩
theorem RV.cap {w : World} {A : Option Addr} {n c sz : Nat} {xs : List Value} (h : RV w (.slice A n c) n sz xs) : n ≤ c := by
  obtain ⟨_, A', c', e, h1, _⟩ := h
  simp only [Value.slice.injEq, true_and] at e
  omega
theorem RV_take {w : World} {A : Option Addr} {c t : Nat} {xs : List UInt8} (h : RV w (.slice A xs.length c) xs.length 1 (bs xs)) (ht : t ≤ xs.length) : RV w (.slice A t c) t 1 (bs (xs.take t)) := by
  obtain ⟨h1, A', c', e, h2, h3, h4⟩ := h
  simp only [Value.slice.injEq, true_and] at e
  obtain ⟨rfl, rfl⟩ := e
  refine ⟨by simp [bs_length]; omega, A, c, rfl, by omega, h3, fun hx => ?_⟩
  obtain ⟨b, o, e, hc⟩ := h4 (by intro e; apply hx; have := congrArg List.length e; rw [bs_length] at this; have : xs = [] := List.eq_nil_of_length_eq_zero (by simpa using this); subst this; simp [bs])
  refine ⟨b, o, e, fun j u hj => hc j u ?_⟩
  rw [bs_take, List.getElem?_take] at hj
  split at hj
  · exact hj
  · exact absurd hj (by simp)
theorem numS_none {most : Nat} {xs : List UInt8} (h : first xs = none) : numS most xs false = (0, xs, true) := by simp [numS, peekS, h]
theorem numS_some {most : Nat} {xs : List UInt8} {x s : Nat} (h : first xs = some (x, s)) (hle : x ≤ most) : numS most xs false = (x, xs.drop s, false) := by simp [numS, peekS, h, hle]
theorem encN_pos (x : Nat) : 0 < (encN x).length := by rw [encN_length]; omega
theorem encNs_ge (l : List Nat) : l.length ≤ (encNs l).length := by
  induction l with
  | nil => simp
  | cons x r ih => have e : encNs (x :: r) = encN x ++ encNs r := rfl; have := encN_pos x; rw [e, List.length_append, List.length_cons]; omega
theorem encB_len (D : List UInt8) : (encB D).length = nb D.length + 1 + D.length := by simp [encB, encN_length]
theorem blob_take {most : Int} {xs : List UInt8} {x s : Nat} (h : blobS most xs false = some (x, s)) : xs.take (s + x) = encB ((xs.drop s).take x) := by
  have hf := blobS_facts h
  have h1 : first xs = some (x, s) := by
    unfold blobS at h
    cases hp : peekS xs false with
    | none => rw [hp] at h; simp at h
    | some y =>
      rw [hp] at h
      simp only at h
      split at h
      · simp only [Option.some.injEq] at h; rw [← h]; simpa [peekS] using hp
      · simp at h
  have hl : ((xs.drop s).take x).length = x := by rw [List.length_take, List.length_drop]; omega
  rw [encB, hl, List.take_add, (first_enc h1).1]
theorem blob1_calls (D : List UInt8) (g : Nat) (sv : Value) (W : World) (hl : (encB D).length ≤ 140737488355328) (hv : RV W sv D.length 1 (bs D)) (hc : W.cell? ⟨g, 0, none⟩ = some sv) :
    Calls Try.prog 16 #[.slice none 0 0, .slice (some ⟨g, 0, none⟩) 1 1] W fun e w' => ∃ v', e = .returned v' ∧ RV w' v' (encB D).length 1 (bs (encB D)) ∧ Below W.heap.size W w' := by
  have h1 : RV W (.slice (some ⟨g, 0, none⟩) 1 1) 1 1 [sv] := ⟨rfl, _, 1, rfl, Nat.le_refl _, by decide, fun _ => ⟨g, 0, rfl, fun j u hj => by
    match j, hj with
    | 0, hj => simp at hj; subst hj; exact hc⟩⟩
  refine (blob_calls _ _ [] [D] W (RV_nil _ 1) ⟨[sv], h1, fun i v x hv' hx => ?_⟩ (by simpa [encBs] using hl)).mono fun e w' hh => ?_
  · match i, hv', hx with
    | 0, hv', hx => simp at hv' hx; subst hv'; subst hx; exact hv
  · obtain ⟨v, rfl, ho, hb⟩ := hh
    exact ⟨v, rfl, by simpa [encBs] using RV_own ho, hb⟩
set_option maxHeartbeats 4000000 in
set_option maxRecDepth 100000 in
theorem only_calls (v : Value) (xs : List UInt8) (most : Int) (w : World) (hv : RV w v xs.length 1 (bs xs)) (hm : most ≤ 9223372036854775807) : Calls Try.prog 4 #[v, .int .i64 most] w fun e w' => e = .returned (.bool true) ∧ Below w.heap.size w w' := by
  obtain ⟨A, c, rfl⟩ := hv.slice
  have hmax := hv.max
  by_cases hbig : 20000 < xs.length
  · go_enter Try.func4, Try.ntmps4
    go_wp2_with (go_at_call 10; refine (awake_calls _).mono ?_; rintro e w1 ⟨rfl, hb⟩)
    go_ret
    exact ⟨rfl, hb⟩
  · go_enter Try.func4, Try.ntmps4
    go_wp2_with fail
    refine (from_calls _ xs w hv (by omega)).mono ?_
    rintro e w1 ⟨⟨p, kb, rfl, hp1, hp2, hk1, hk2, hc⟩, hb1⟩
    have hp3 : p < w1.heap.size := hp2
    have hc := hc.toV
    go_upto_block 0 with (fail)
    go_cut [5, 6] (fun pc l wc => ∃ (ns : List Nat) (rest : List UInt8) (bad : Bool), xs = encNs ns ++ rest ∧ (∀ x ∈ ns, x < 18446744073709551616) ∧ pc = .pointer (some ⟨p, 0, none⟩) ∧ wc.ownsRow w1.heap.size 22 1 l ns.length (nums64 ns) ∧ CutV wc (.pointer (some ⟨p, 0, none⟩)) kb rest bad ∧ Below w.heap.size w wc)
    case first =>
      go_wp2_with fail
      go_loopw [6, 7] (fun l n wr => ∃ (ns : List Nat) (rest : List UInt8), Hid (xs = encNs ns ++ rest) ∧ (∀ x ∈ ns, x < 18446744073709551616) ∧ n = .int .i64 (Int.ofNat ns.length) ∧ wr.ownsRow w1.heap.size 22 1 l ns.length (nums64 ns) ∧ CutV wr (.pointer (some ⟨p, 0, none⟩)) kb rest false ∧ Below w.heap.size w wr ∧ w1.heap.size ≤ wr.heap.size) (fun _ n _ => xs.length - (intOf n).toNat)
      case atStart => exact ⟨[], xs, rfl, by simp, rfl, World.ownsRow_nil _ _ _ _, hc, hb1, Nat.le_refl _⟩
      case round =>
        obtain ⟨ns, rest, hx, hns, rfl, hown, hcr, hb, hz⟩ := hrel
        have hlen : xs.length = (encNs ns).length + rest.length := by rw [hx.out, List.length_append]
        have hnsl : ns.length ≤ xs.length := by have := encNs_ge ns; omega
        have hrl : rest.length ≤ xs.length := by omega
        have hns3 : 0 < rest.length → ns.length < xs.length := fun h => by have := encNs_ge ns; omega
        have HL := hid hlen
        clear hlen
        by_cases h0 : 0 < rest.length
        · have hns2 := hns3 h0
          clear hns3
          cases hf : first rest with
          | none =>
            have hN := hid (numS_none (most := 18446744073709551615) hf)
            clear hf
            go_wp2_with fail
            refine (left_calls _ _ _ _ hcr).mono ?_
            rintro e wr' ⟨rfl, rfl⟩
            go_wp2_with fail
            refine (cnum_calls _ _ _ _ hcr 18446744073709551615 (by decide) 0 rest true hN).mono ?_
            rintro e w2 ⟨rfl, hc2, g2⟩
            go_wp2_with fail
            refine (err_calls _ _ _ _ hc2 2 rfl).mono ?_
            rintro e w3 ⟨rfl, b3⟩
            go_wp2_with fail
            go_meet
            case rel => exact ⟨ns, rest, true, hx.out, hns, rfl, own_below (hown.kept g2 (own_ne_cut hown hp3)) b3, hc2.below b3, (hb.grown g2 (by omega) (fun k hk => by simp [cutBlk] at hk; omega)).trans (b3.mono (by have := g2.size; omega))⟩
          | some y =>
            obtain ⟨x, s⟩ := y
            obtain ⟨hs0, hsl, hs9, hx64⟩ := first_facts hf
            obtain ⟨hte, hse⟩ := first_enc hf
            have hN := hid (numS_some (most := 18446744073709551615) hf (by omega))
            have HT := hid hte
            clear hf hte hse
            go_wp2_with fail
            refine (left_calls _ _ _ _ hcr).mono ?_
            rintro e wr' ⟨rfl, rfl⟩
            go_wp2_with fail
            refine (cnum_calls _ _ _ _ hcr 18446744073709551615 (by decide) x (rest.drop s) false hN).mono ?_
            rintro e w2 ⟨rfl, hc2, g2⟩
            go_wp2_with fail
            refine (err_calls _ _ _ _ hc2 0 rfl).mono ?_
            rintro e w3 ⟨rfl, b3⟩
            have hown3 := own_below (hown.kept g2 (own_ne_cut hown hp3)) b3
            have hz2 := g2.size
            have hz3 := b3.size
            go_wp2_with (at_builtin; refine wpList_append_one (.tmp 36) (.tmp 38) 30 w1.heap.size 22 (.int .u64 0) 8 Try.underlying30 info_u64 hown3 _ rfl (by omega) (by omega) rfl rfl rfl rfl rfl (by decide) ?_; intro v4 w4 hown4 hb4)
            go_roundw
            case rel =>
              refine ⟨ns ++ [x], rest.drop s, ?_, ?_, by simp, own_len hown4 (by simp) (nums64_snoc ns x), (hc2.below b3).low hb4 hp3 (by omega), (((hb.grown g2 (by omega) (fun k hk => by simp [cutBlk] at hk; omega)).trans (b3.mono (by omega))).trans (hb4.mono (by omega))), by have := hb4.size; omega⟩
              · show _ = _
                rw [encNs_snoc, hx.out, ← HT.out, List.append_assoc, List.take_append_drop]
              · intro z hz
                rcases List.mem_append.1 hz with h | h
                · exact hns z h
                · simp at h; omega
            case measure => simp [intOf]; omega
        · obtain rfl : rest = [] := List.eq_nil_of_length_eq_zero (by omega)
          go_wp2_with fail
          refine (left_calls _ _ _ _ hcr).mono ?_
          rintro e wr' ⟨rfl, rfl⟩
          go_wp2_with fail
          go_meet
          case rel => exact ⟨ns, [], false, hx.out, hns, rfl, hown, hcr, hb⟩
    case rest =>
      obtain ⟨ns, rest, bad, hx, hns, rfl, hown, hcr, hb⟩ := hcut
      have hlen : xs.length = (encNs ns).length + rest.length := by rw [hx, List.length_append]
      have hnsl : ns.length ≤ xs.length := by have := encNs_ge ns; omega
      have hrl : rest.length ≤ xs.length := by omega
      have hel : (encNs ns).length ≤ xs.length := by omega
      have HX := hid hx
      have HL := hid hlen
      clear hx hlen
      go_wp2_with fail
      refine (left_calls _ _ _ _ hcr).mono ?_
      rintro e wr' ⟨rfl, rfl⟩
      go_upto_region 14 with (fail)
      obtain ⟨tk, htk⟩ : ∃ tk : Nat, Hid ((xs.length : Int) - (rest.length : Int) = (tk : Int)) := ⟨xs.length - rest.length, by show _ = _; omega⟩
      rw [htk.out]
      have htk1 : tk ≤ xs.length := by have := htk.out; omega
      have htc : tk ≤ c := by have := hv.cap; omega
      have hte : xs.take tk = encNs ns := by
        have h1 := htk.out
        have h2 := HL.out
        have h3 := HX.out
        have : tk = (encNs ns).length := by omega
        rw [this]
        conv => lhs; rw [h3]
        simp
      have HT := hid hte
      clear hte
      have hvt := RV_take hv htk1
      rw [HT.out] at hvt
      have hvc := hvt.below hb
      have hcv0 := conv_bytes (hvc.below (Below.refl _ _).drew)
      go_cut [56] (fun t wc2 => t = .bool false ∧ Below wc.heap.size wc wc2)
      case first =>
        have hcvA : ∀ w', Below wc.heap.size wc w' → Sem.run Try.prog (convert 23 9 (.slice A tk c)) w' = .ok (.string (st (encNs ns))) w' := fun w' h => conv_bytes (hvc.below h)
        go_region_held (fun w' => Below wc.heap.size wc w') (first | exact Below.refl _ _ | exact (Below.refl _ _).drew | assumption) (first | (go_at_call 9; refine (num_calls _ _ [] ns _ (RV_nil _ 1) ((RV_own hown).below (by assumption)) hns (by simp only [List.length_nil]; omega)).mono ?_; rintro e w2 ⟨v2, rfl, ho2, hb2⟩; have hcv1 := conv_bytes (RV_own ho2); have hbb : Below wc.heap.size wc w2 := below_size (by assumption) hb2))
        go_wp2_with fail
        go_meet
        case rel => exact ⟨rfl, by assumption⟩
      case rest =>
        obtain ⟨rfl, hbc⟩ := hcut
        rename World => wd
        have hb2 : Below w.heap.size w wd := below_size hb hbc
        go_wp2_with fail
        refine (from_calls _ xs wd (hv.below hb2) (by omega)).mono ?_
        rintro e w5 ⟨⟨q, kb5, rfl, hq1, hq2, hk5, hk6, hd⟩, hb5⟩
        have hd := hd.toV
        have hb5' : Below w.heap.size w w5 := below_size hb2 hb5
        cases hf : blobS most xs false with
        | none =>
          have hN : Hid (blobR most xs false = ([], xs, true)) := by show _ = _; simp [blobR, hf]
          clear hf
          go_wp2_with fail
          refine (cblob_calls _ _ xs false hd most hm [] xs true hN (by omega)).mono ?_
          rintro e w6 ⟨⟨sv, rfl, hos⟩, hd6, g6⟩
          have hb6 : Below w.heap.size w w6 := hb5'.grown g6 hb5'.size (fun k hk => by simp [cutBlk] at hk; have := hb2.size; omega)
          have hsv := RV_own hos
          obtain ⟨sA, sc, rfl⟩ := hsv.slice
          go_wp2_with fail
          refine (err_calls _ _ _ _ hd6 2 rfl).mono ?_
          rintro e w7 ⟨rfl, b7⟩
          have hb7 := below_size hb6 b7
          go_wp2_with (first | (go_at_call 12; refine (left_calls _ _ _ _ (hd6.below b7)).mono ?_; rintro e wr' ⟨rfl, rfl⟩) | (go_at_call 10; refine (awake_calls _).mono ?_; rintro e w8 ⟨rfl, hb8⟩))
          go_ret
          exact ⟨rfl, below_size hb7 hb8⟩
        | some y =>
          obtain ⟨x, s⟩ := y
          obtain ⟨_, hs0, hs9, hxs, hm0, hxm⟩ := blobS_facts hf
          have hN : Hid (blobR most xs false = ((xs.drop s).take x, xs.drop (s + x), false)) := by show _ = _; simp [blobR, hf]
          have henc := blob_take hf
          clear hf
          obtain ⟨D, hD⟩ := hidden ((xs.drop s).take x)
          obtain ⟨R, hR⟩ := hidden (xs.drop (s + x))
          rw [hD.out, hR.out] at hN
          rw [hD.out] at henc
          have hDl : D.length = x := by rw [← hD.out, List.length_take, List.length_drop]; omega
          have hRl : R.length = xs.length - (s + x) := by rw [← hR.out, List.length_drop]
          have hRle : R.length ≤ xs.length := by omega
          have HRL := hid hRl
          have HE := hid henc
          have hDm : (D.length : Int) ≤ most := by rw [hDl]; exact hxm
          have HDL := hid hDl
          clear hRl henc hDl
          go_wp2_with fail
          refine (cblob_calls _ _ xs false hd most hm D R false hN (by omega)).mono ?_
          rintro e w6 ⟨⟨sv, rfl, hos⟩, hd6, g6⟩
          have hb6 : Below w.heap.size w w6 := hb5'.grown g6 hb5'.size (fun k hk => by simp [cutBlk] at hk; have := hb2.size; omega)
          have hsv := RV_own hos
          obtain ⟨sA, sc, rfl⟩ := hsv.slice
          go_wp2_with fail
          refine (err_calls _ _ _ _ hd6 0 rfl).mono ?_
          rintro e w7 ⟨rfl, b7⟩
          have hb7 := below_size hb6 b7
          have hsv7 := hsv.below b7
          go_upto_region 21 with (first | (go_at_call 12; refine (left_calls _ _ _ _ (hd6.below b7)).mono ?_; rintro e wr' ⟨rfl, rfl⟩))
          obtain ⟨tk2, htk2⟩ : ∃ tk : Nat, Hid ((xs.length : Int) - (R.length : Int) = (tk : Int)) := ⟨s + x, by have := HRL.out; show _ = _; omega⟩
          rw [htk2.out]
          have htk3 : tk2 = s + x := by have := htk2.out; have := HRL.out; omega
          have htk4 : tk2 ≤ xs.length := by omega
          have htc2 : tk2 ≤ c := by have := hv.cap; omega
          have hvt2 := RV_take hv htk4
          rw [htk3, HE.out, ← htk3] at hvt2
          have hHT3 := hid htk3
          clear htk3
          have hvd := hvt2.below hb7
          have hcvA : ∀ w', Below w7.heap.size w7 w' → Sem.run Try.prog (convert 23 9 (.slice A tk2 c)) w' = .ok (.string (st (encB D))) w' := fun w' h => conv_bytes (hvd.below h)
          have hsvA : ∀ w', Below w7.heap.size w7 w' → RV w' (.slice sA D.length sc) D.length 1 (bs D) := fun w' h => hsv7.below h
          have hDx : (encB D).length ≤ 140737488355328 := by rw [encB_len]; have := HDL.out; have := nb_le D.length; omega
          have hge : (0 : Int) ≤ (tk2 : Int) := by omega
          have hle : (tk2 : Int) ≤ (xs.length : Int) := by omega
          have hge2 : (tk2 : Int) ≥ 0 := by omega
          have hblob : ∀ w', Below w7.heap.size w7 w' → w'.cell? ⟨w7.heap.size, 0, none⟩ = some (.slice sA D.length sc) → Calls Try.prog 16 #[.slice none 0 0, .slice (some ⟨w7.heap.size, 0, none⟩) 1 1] w' fun e w2 => ∃ v', e = .returned v' ∧ RV w2 v' (encB D).length 1 (bs (encB D)) ∧ Below w7.heap.size w7 w2 := fun w' h1 h2 => (blob1_calls D _ _ _ hDx (hsvA w' h1) h2).mono fun e w2 ⟨v', h3, h4, h5⟩ => ⟨v', h3, h4, below_size h1 h5⟩
          go_region_held (fun w' => Below w7.heap.size w7 w') (first | exact Below.refl _ _ | exact (Below.refl _ _).drew | assumption | exact Below.alloc (by assumption) (Below.size (by assumption)) _) (first | (go_at_call 16; refine (hblob _ (by assumption) (by go_simp)).mono ?_; rintro e w8 ⟨v8, rfl, ho8, hbb⟩; have hcv8 := conv_bytes ho8) | (go_at_call 10; refine (awake_calls _).mono ?_; rintro e w9 ⟨rfl, hb9⟩; have hbc9 : Below w7.heap.size w7 w9 := below_size (by assumption) hb9))
          go_wp2_with fail
          go_ret
          exact ⟨rfl, below_size hb7 (by assumption)⟩
theorem packOnly_walk (v : Value) (xs : List UInt8) (a : Int) (w : World) (hv : RV w v xs.length 1 (bs xs)) (hz : xs.length ≤ 140737488355328) (ha : (Lit.int .i64 a).wf = true) : Calls Try.prog 4 #[v, .int .i64 a] w fun e w' => e = .returned (.bool true) ∧ Below w.heap.size w w' :=
  only_calls v xs a w hv (i64_wf ha).2
end Go.Proofs.Ytgdemfjlhcepiaa
