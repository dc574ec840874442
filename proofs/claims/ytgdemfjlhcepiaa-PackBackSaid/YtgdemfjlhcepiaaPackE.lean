/-
  The chapter's examples stand.
-/
import Derived.Test.YtgdemfjlhcepiaaPackD
set_option linter.unusedVariables false
set_option linter.unusedSimpArgs false
namespace Go.Proofs.Ytgdemfjlhcepiaa
open Go.RowKit
attribute [local go_sem] eq_bytes_nil
variable {kb : Nat}

theorem CutAt.toV {w : World} {p : Nat} {xs : List UInt8} {bad : Bool} (h : CutAt 52 w p kb xs bad) : CutV w (.pointer (some ⟨p, 0, none⟩)) kb xs bad := .inr ⟨p, rfl, h⟩
theorem CutV.past {w w' : World} {p q : Nat} {xs : List UInt8} {bad : Bool} (h : CutV w (.pointer (some ⟨p, 0, none⟩)) kb xs bad) (hg : w.grownBy w' (cutBlk (.pointer (some ⟨q, 0, none⟩)))) (h1 : q < kb) (h2 : kb ≤ p) : CutV w' (.pointer (some ⟨p, 0, none⟩)) kb xs bad :=
  h.other hg (.inr fun e => by simp [cutBlk] at e; omega) (fun _ e => by simp [cutBlk] at e; omega)
theorem below_alloc {w w' : World} {o : Obj} (h : Below (w.alloc o).heap.size (w.alloc o) w') : Below w.heap.size w w' ∧ w.heap.size + 1 ≤ w'.heap.size :=
  ⟨((Below.refl _ _).alloc (Nat.le_refl _) o).trans (h.mono (by simp)), by have := h.size; simpa using this⟩
theorem encNs_ex : encNs [0, 1, 255, 256] = [0, 1, 1, 1, 255, 2, 1, 0] := by decide
theorem encTs_ex : encTs [⟨#[97, 98]⟩] = [1, 2, 97, 98] := by decide

set_option maxHeartbeats 2000000 in
set_option maxRecDepth 100000 in
theorem awake_calls (w : World) : Calls Try.prog 10 #[] w fun e w' => e = .returned (.bool true) ∧ Below w.heap.size w w' := by
  go_enter Try.func10, Try.ntmps10
  go_wp2_with fail
  refine (num_calls _ _ [] [0, 1, 255, 256] _ (RV_nil _ 1) (RV_new w (nums64 [0, 1, 255, 256]) 22 4 1 (0, 0) rfl (by decide)) (by decide) (by rw [encNs_ex]; decide)).mono ?_
  rintro e w1 ⟨vb, rfl, hb, hw1⟩
  rw [encNs_ex] at hb
  go_wp2_with fail
  refine (text_calls _ _ [] [⟨#[97, 98]⟩] _ (RV_nil _ 1) (RV_new w1 (ss [⟨#[97, 98]⟩]) 9 1 1 (0, 0) rfl (by decide)) (by rw [encTs_ex]; decide)).mono ?_
  rintro e w2 ⟨vt, rfl, ht, hw2⟩
  rw [encTs_ex] at ht
  go_wp2_with fail
  refine (from_calls _ [1, 0] _ (RV_new w2 (bs [1, 0]) 5 2 1 (0, 0) rfl (by decide)) (by decide)).mono ?_
  rintro e w3 ⟨⟨pc, kc, rfl, hc1, hc2, hc3, hc4, hc⟩, hw3⟩
  have hc := hc.toV
  go_wp2_with fail
  refine (from_calls _ [1, 7, 5] _ (RV_new w3 (bs [1, 7, 5]) 5 3 1 (0, 0) rfl (by decide)) (by decide)).mono ?_
  rintro e w4 ⟨⟨pd, kd, rfl, hd1, hd2, hd3, hd4, hd⟩, hw4⟩
  have hd := hd.toV
  go_wp2_with fail
  refine (from_calls _ [1, 7, 5] _ (RV_new w4 (bs [1, 7, 5]) 5 3 1 (0, 0) rfl (by decide)) (by decide)).mono ?_
  rintro e w5 ⟨⟨pe, ke, rfl, he1, he2, he3, he4, he⟩, hw5⟩
  have he := he.toV
  go_wp2_with fail
  refine (from_calls _ [1, 2, 97] _ (RV_new w5 (bs [1, 2, 97]) 5 3 1 (0, 0) rfl (by decide)) (by decide)).mono ?_
  rintro e w6 ⟨⟨pf, kf, rfl, hf1, hf2, hf3, hf4, hf⟩, hw6⟩
  have hf := hf.toV
  go_wp2_with fail
  refine (from_calls _ [1, 2, 97, 98] _ (RV_new w6 (bs [1, 2, 97, 98]) 5 4 1 (0, 0) rfl (by decide)) (by decide)).mono ?_
  rintro e w7 ⟨⟨pg, kg, rfl, hg1, hg2, hg3, hg4, hg⟩, hw7⟩
  have hg := hg.toV
  obtain ⟨b1, z1⟩ := below_alloc hw1
  obtain ⟨b2, z2⟩ := below_alloc hw2
  obtain ⟨b3, z3⟩ := below_alloc hw3
  obtain ⟨b4, z4⟩ := below_alloc hw4
  obtain ⟨b5, z5⟩ := below_alloc hw5
  obtain ⟨b6, z6⟩ := below_alloc hw6
  obtain ⟨b7, z7⟩ := below_alloc hw7
  have hvb : Sem.run Try.prog (convert 23 9 vb) w7 = .ok (.string ⟨#[0, 1, 1, 1, 255, 2, 1, 0]⟩) w7 := conv_bytes ((((((RV_own hb).below b2).below b3).below b4).below b5).below (below_size b6 b7))
  have hvt : Sem.run Try.prog (convert 23 9 vt) w7 = .ok (.string ⟨#[1, 2, 97, 98]⟩) w7 := conv_bytes (((((RV_own ht).below b3).below b4).below b5).below (below_size b6 b7))
  have hc := (((hc.below b4).below b5).below b6).below b7
  have hd := ((hd.below b5).below b6).below b7
  have he := (he.below b6).below b7
  have hf := hf.below b7
  have hall := below_size b1 (below_size b2 (below_size b3 (below_size b4 (below_size b5 (below_size b6 b7)))))
  simp only [World.size_alloc] at hc1 hc3 hd1 hd3 he1 he3 hf1 hf3 hg1 hg3
  clear hw1 hw2 hw3 hw4 hw5 hw6 hw7 hb ht
  go_wp2_with fail
  refine (cnum_calls _ _ _ _ hc 9 (by decide) 0 [1, 0] true (by show _ = _; decide)).mono ?_
  rintro e w8 ⟨rfl, hc, g8⟩
  have hd := hd.past g8 (by omega) hd4
  have he := he.past g8 (by omega) he4
  have hf := hf.past g8 (by omega) hf4
  have hg := hg.past g8 (by omega) hg4
  have hall := hall.grown g8 (by omega) (fun k hk => by simp [cutBlk] at hk; omega)
  go_wp2_with fail
  refine (left_calls _ _ _ _ hc).mono ?_
  rintro e w8' ⟨rfl, rfl⟩
  go_wp2_with fail
  refine (err_calls _ _ _ _ hc 2 rfl).mono ?_
  rintro e w9 ⟨rfl, b9⟩
  go_wp2_with fail
  have hd := hd.below b9
  have he := he.below b9
  have hf := hf.below b9
  have hg := hg.below b9
  have hall := below_size hall b9
  have z9 := b9.size
  have z8 := g8.size
  refine (cnum_calls _ _ _ _ hd 6 (by decide) 0 [1, 7, 5] true (by show _ = _; decide)).mono ?_
  rintro e w10 ⟨rfl, hd, g10⟩
  have he := he.past g10 (by omega) he4
  have hf := hf.past g10 (by omega) hf4
  have hg := hg.past g10 (by omega) hg4
  have hall := hall.grown g10 (by omega) (fun k hk => by simp [cutBlk] at hk; omega)
  have z10 := g10.size
  go_wp2_with fail
  refine (err_calls _ _ _ _ hd 2 rfl).mono ?_
  rintro e w11 ⟨rfl, b11⟩
  have he := he.below b11
  have hf := hf.below b11
  have hg := hg.below b11
  have hall := below_size hall b11
  have z11 := b11.size
  go_wp2_with fail
  refine (cnum_calls _ _ _ _ he 7 (by decide) 7 [5] false (by show _ = _; decide)).mono ?_
  rintro e w12 ⟨rfl, he, g12⟩
  have hf := hf.past g12 (by omega) hf4
  have hg := hg.past g12 (by omega) hg4
  have hall := hall.grown g12 (by omega) (fun k hk => by simp [cutBlk] at hk; omega)
  have z12 := g12.size
  go_wp2_with fail
  refine (left_calls _ _ _ _ he).mono ?_
  rintro e w12' ⟨rfl, rfl⟩
  go_wp2_with fail
  refine (done_calls _ _ _ _ he true rfl 2 rfl).mono ?_
  rintro e w13 ⟨rfl, he, g13⟩
  have hf := hf.past g13 (by omega) hf4
  have hg := hg.past g13 (by omega) hg4
  have hall := hall.grown g13 (by omega) (fun k hk => by simp [cutBlk] at hk; omega)
  have z13 := g13.size
  go_wp2_with fail
  refine (cblob_calls _ _ _ _ hf 9 (by decide) [] [1, 2, 97] true (by show _ = _; decide) (by decide)).mono ?_
  rintro e w14 ⟨⟨u, rfl, hu⟩, hf, g14⟩
  obtain ⟨ua, uc, rfl⟩ := (RV_own hu).slice
  have hg := hg.past g14 (by omega) hg4
  have hall := hall.grown g14 (by omega) (fun k hk => by simp [cutBlk] at hk; omega)
  have z14 := g14.size
  clear hu
  go_wp2_with fail
  refine (err_calls _ _ _ _ hf 2 rfl).mono ?_
  rintro e w15 ⟨rfl, b15⟩
  have hg := hg.below b15
  have hall := below_size hall b15
  have z15 := b15.size
  go_wp2_with fail
  refine (cblob_calls _ _ _ _ hg 1 (by decide) [] [1, 2, 97, 98] true (by show _ = _; decide) (by decide)).mono ?_
  rintro e w16 ⟨⟨u, rfl, hu⟩, hg, g16⟩
  obtain ⟨ua2, uc2, rfl⟩ := (RV_own hu).slice
  have hall := hall.grown g16 (by omega) (fun k hk => by simp [cutBlk] at hk; omega)
  have z16 := g16.size
  clear hu
  go_wp2_with fail
  refine (err_calls _ _ _ _ hg 2 rfl).mono ?_
  rintro e w17 ⟨rfl, b17⟩
  have hall := below_size hall b17
  go_wp2_with fail
  go_ret
  exact ⟨rfl, hall⟩
end Go.Proofs.Ytgdemfjlhcepiaa
