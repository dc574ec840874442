/-
  Plain laws on the digits of a sum: what is written is read as it was, and the other way round.
-/
import Derived.Test.YthhandkckbnafaaShaRead
set_option linter.unusedVariables false
set_option linter.unusedSimpArgs false
namespace Go.Proofs.Ythhandkckbnafaa
theorem dg_hexd_all : ((List.range 16).all fun n => dg (hexd n) == ((n : Nat) : Int)) = true := by kernel_rfl
theorem dg_hexd (n : Nat) (h : n < 16) : dg (hexd n) = (n : Int) := eq_of_beq (List.all_eq_true.1 dg_hexd_all n (List.mem_range.2 h))
theorem hexd_dg_all : ((List.range 256).all fun n => !(isD (UInt8.ofNat n)) || (hexd (dg (UInt8.ofNat n)).toNat == UInt8.ofNat n)) = true := by kernel_rfl
theorem hexd_dg (c : UInt8) (h : isD c = true) : hexd (dg c).toNat = c := by
  have h2 := List.all_eq_true.1 hexd_dg_all c.toNat (List.mem_range.2 c.toNat_lt)
  rw [UInt8.ofNat_toNat, h] at h2
  exact eq_of_beq (by simpa using h2)
theorem isD_hexd (n : Nat) (h : n < 16) : isD (hexd n) = true := by unfold isD; rw [dg_hexd n h]; exact decide_eq_true (by omega)
theorem nib_hex (D : List UInt8) : nib (hexs D) = D.flatMap fun b => [b.toNat / 16, b.toNat % 16] := by
  induction D with
  | nil => rfl
  | cons b D ih =>
    have hb := b.toNat_lt
    unfold hexs nib at *
    rw [List.flatMap_cons, List.flatMap_cons, List.map_append, ih]
    have h1 := dg_hexd (b.toNat / 16) (by omega)
    have h2 := dg_hexd (b.toNat % 16) (by omega)
    simp only [hexB, List.map_cons, List.map_nil, h1, h2, Int.toNat_natCast]
theorem pair_at (D : List UInt8) (j : Nat) (h : j < D.length) : (D.flatMap fun b => [b.toNat / 16, b.toNat % 16]).getD (2 * j) 0 = (D[j]).toNat / 16 ∧ (D.flatMap fun b => [b.toNat / 16, b.toNat % 16]).getD (2 * j + 1) 0 = (D[j]).toNat % 16 := by
  have h0 := flat_at (fun b : UInt8 => [b.toNat / 16, b.toNat % 16]) 2 D (fun _ _ => rfl) j h 0 _ rfl
  have h1 := flat_at (fun b : UInt8 => [b.toNat / 16, b.toNat % 16]) 2 D (fun _ _ => rfl) j h 1 _ rfl
  rw [Nat.add_zero, Nat.mul_comm] at h0
  rw [Nat.mul_comm] at h1
  rw [List.getD, List.getD, h0, h1]
  exact ⟨rfl, rfl⟩
theorem outK_hex (D : List UInt8) (h : D.length = 32) : outK (nib (hexs D)) = D := by
  apply List.ext_getElem?
  intro j
  unfold outK
  rw [List.getElem?_map]
  by_cases hj : j < 32
  · rw [List.getElem?_range hj, List.getElem?_eq_getElem (by omega), Option.map_some]
    congr 1
    unfold outB
    have hl : (nib (hexs D)).length = 64 := by unfold nib; rw [List.length_map, hexs_length, h]
    rw [if_pos (by omega), nib_hex]
    obtain ⟨h1, h2⟩ := pair_at D j (by omega)
    rw [h1, h2, show 16 * ((D[j]).toNat / 16) + (D[j]).toNat % 16 = (D[j]).toNat by omega, UInt8.ofNat_toNat]
  · rw [List.getElem?_eq_none (by simp; omega), List.getElem?_eq_none (by omega)]; rfl
theorem rdOk_hex (D : List UInt8) (h : D.length = 32) : rdOk (hexs D) = true := by
  unfold rdOk
  rw [decide_eq_true (by rw [hexs_length, h]), Bool.true_and, List.all_eq_true]
  intro c hc
  unfold hexs at hc
  obtain ⟨b, _, hb⟩ := List.mem_flatMap.1 hc
  have hlt := b.toNat_lt
  unfold hexB at hb
  rcases List.mem_cons.1 hb with rfl | hb
  · exact isD_hexd _ (by omega)
  · rw [List.mem_singleton] at hb; subst hb; exact isD_hexd _ (by omega)
theorem rdO_hex (D : List UInt8) (h : D.length = 32) : rdO (hexs D) = D := by unfold rdO; rw [if_pos (rdOk_hex D h), outK_hex D h]
theorem rdO_length (s : List UInt8) : (rdO s).length = 32 := by unfold rdO; split; exact outK_length _; simp
theorem hexs_inj (D E : List UInt8) (hD : D.length = 32) (hE : E.length = 32) (h : hexs D = hexs E) : D = E := by rw [← rdO_hex D hD, ← rdO_hex E hE, h]
theorem hexs_at (D : List UInt8) (j : Nat) (h : j < D.length) : (hexs D)[2 * j]? = some (hexd ((D[j]).toNat / 16)) ∧ (hexs D)[2 * j + 1]? = some (hexd ((D[j]).toNat % 16)) := by
  have h0 := flat_at hexB 2 D (fun _ _ => rfl) j h 0 _ rfl
  have h1 := flat_at hexB 2 D (fun _ _ => rfl) j h 1 _ rfl
  rw [Nat.add_zero, Nat.mul_comm] at h0
  rw [Nat.mul_comm] at h1
  exact ⟨h0, h1⟩
theorem hex_rd (s : List UInt8) (h : rdOk s = true) : hexs (rdO s) = s := by
  have hl : s.length = 64 := by unfold rdOk at h; rw [Bool.and_eq_true] at h; exact of_decide_eq_true h.1
  have ha : s.all isD = true := by unfold rdOk at h; rw [Bool.and_eq_true] at h; exact h.2
  unfold rdO
  rw [if_pos h]
  have hok : ∀ i (hi : i < 64), s[i]? = some (hexd ((nib s).getD i 0)) ∧ (nib s).getD i 0 < 16 := by
    intro i hi
    refine ⟨?_, nib_lt s i⟩
    unfold nib
    rw [List.getD, List.getElem?_map, List.getElem?_eq_getElem (by omega : i < s.length)]
    exact congrArg some (hexd_dg _ (List.all_eq_true.1 ha _ (List.getElem_mem _))).symm
  have hn : (nib s).length = 64 := by unfold nib; rw [List.length_map, hl]
  have hkl : (hexs (outK (nib s))).length = 64 := by rw [hexs_length, outK_length]
  have hkj : ∀ j (hj : j < 32), (outK (nib s))[j]'(by rw [outK_length]; exact hj) = UInt8.ofNat (outB (nib s) j) := fun j hj => by simp [outK]
  apply List.ext_getElem?
  intro i
  by_cases hi : i < 64
  · obtain ⟨h1, h2⟩ := hexs_at (outK (nib s)) (i / 2) (by rw [outK_length]; omega)
    have hj : i / 2 < 32 := by omega
    rw [hkj _ hj] at h1 h2
    obtain ⟨a1, a2⟩ := hok (2 * (i / 2)) (by omega)
    obtain ⟨b1, b2⟩ := hok (2 * (i / 2) + 1) (by omega)
    have hob : outB (nib s) (i / 2) = 16 * (nib s).getD (2 * (i / 2)) 0 + (nib s).getD (2 * (i / 2) + 1) 0 := by unfold outB; rw [if_pos (by omega)]
    rw [hob, u8n _ (by omega)] at h1 h2
    rw [show (16 * (nib s).getD (2 * (i / 2)) 0 + (nib s).getD (2 * (i / 2) + 1) 0) / 16 = (nib s).getD (2 * (i / 2)) 0 by omega, ← a1] at h1
    rw [show (16 * (nib s).getD (2 * (i / 2)) 0 + (nib s).getD (2 * (i / 2) + 1) 0) % 16 = (nib s).getD (2 * (i / 2) + 1) 0 by omega, ← b1] at h2
    rcases Nat.mod_two_eq_zero_or_one i with hm | hm
    · rw [show 2 * (i / 2) = i by omega] at h1
      exact h1
    · rw [show 2 * (i / 2) + 1 = i by omega] at h2
      exact h2
  · rw [List.getElem?_eq_none (by omega), List.getElem?_eq_none (by omega)]
theorem rdOk_len (s : List UInt8) (h : s.length ≠ 64) : rdOk s = false := by unfold rdOk; rw [decide_eq_false h]; rfl
end Go.Proofs.Ythhandkckbnafaa
