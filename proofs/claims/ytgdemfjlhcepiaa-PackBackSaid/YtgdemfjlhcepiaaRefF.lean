/-
  The document's pack: the number with which bytes begin.
-/
import Derived.Test.YtgdemfjlhcepiaaRefA
import Derived.Test.YtgdemfjlhcepiaaO
import Derived.Deep.RegionHeldLaw
import Derived.Deep.DeepCutAuto
import Derived.Deep.CutBlock
set_option linter.unusedVariables false
set_option linter.unusedSimpArgs false
namespace Go.Proofs.Ytgdemfjlhcepiaa
open Go.RowKit
theorem str_ne {a b : ByteArray} (h : ¬ a = b) : (a.toList == b.toList) = false := by
  rw [ByteArray.toList_eq, ByteArray.toList_eq]
  refine beq_eq_false_iff_ne.2 fun e => h ?_
  rw [← st_tb a, ← st_tb b]
  exact congrArg st e
theorem RV_pre {w : World} {A : Option Addr} {c n t : Nat} {xs : List UInt8} (h : RV w (.slice A n c) n 1 (bs xs)) (ht : t ≤ n) : RV w (.slice A t c) t 1 (bs (xs.take t)) := by
  obtain ⟨h1, A', c', e, h2, h3, h4⟩ := h
  rw [bs_length] at h1
  simp only [Value.slice.injEq, true_and] at e
  obtain ⟨rfl, rfl⟩ := e
  refine ⟨by simp [bs_length]; omega, A, c, rfl, by omega, h3, fun hx => ?_⟩
  obtain ⟨b, o, e, hc⟩ := h4 (by intro e; apply hx; have := congrArg List.length e; rw [bs_length] at this; have : xs = [] := List.eq_nil_of_length_eq_zero (by simpa using this); subst this; simp [bs])
  refine ⟨b, o, e, fun j u hj => hc j u ?_⟩
  have e2 : bs (xs.take t) = (bs xs).take t := by simp [bs]
  rw [e2, List.getElem?_take] at hj
  split at hj
  · exact hj
  · exact absurd hj (by simp)
theorem RV.head {w : World} {A : Option Addr} {c : Nat} {k : UInt8} {r : List UInt8} (h : RV w (.slice A (k :: r).length c) (k :: r).length 1 (bs (k :: r))) :
    ∃ b o, A = some ⟨b, o, none⟩ ∧ (k :: r).length ≤ c ∧ w.cell? ⟨b, o, none⟩ = some (.int .u8 (k.toNat : Int)) ∧ ∀ j (hj : j < r.length), w.cell? ⟨b, o + (j + 1), none⟩ = some (.int .u8 (r[j].toNat : Int)) := by
  obtain ⟨_, A', c', e, h1, _, h3⟩ := h
  simp only [Value.slice.injEq] at e
  obtain ⟨rfl, _, rfl⟩ := e
  obtain ⟨b, o, rfl, hc⟩ := h3 (by simp [bs])
  exact ⟨b, o, rfl, h1, by simpa [bs] using hc 0 _ (by simp [bs]), fun j hj => hc (j + 1) _ (by simp [bs, hj])⟩
set_option maxHeartbeats 1000000 in
theorem rfirst_calls (v : Value) (xs : List UInt8) (w : World) (hv : RV w v xs.length 1 (bs xs)) (x n : Nat) (hN : Hid ((first xs).getD (0, 0) = (x, n))) :
    Calls Try.prog 43 #[v] w fun e w' => e = .returned (.tuple #[.int .u64 (x : Int), .int .i64 (n : Int)]) ∧ Below w.heap.size w w' := by
  have hmax := hv.max
  obtain ⟨A, c, rfl⟩ := hv.slice
  cases xs with
  | nil =>
    have := hN.out; simp [first] at this; obtain ⟨rfl, rfl⟩ := this
    go_enter Try.func43, Try.ntmps43
    go_wp2
    go_ret2
    exact ⟨rfl, Below.refl _ _⟩
  | cons k r =>
    obtain ⟨b, o, rfl, hc, h0, hj⟩ := hv.head
    have hlen : (k :: r).length = r.length + 1 := rfl
    rw [hlen] at hv hc hmax ⊢
    clear hlen
    have hnz : ((r.length : Int) + 1 == 0) = false := by simp; omega
    by_cases h8 : 8 < k.toNat
    · have := hN.out; simp [first, h8] at this; obtain ⟨rfl, rfl⟩ := this
      go_enter Try.func43, Try.ntmps43
      go_wp2
      go_ret2
      exact ⟨rfl, Below.refl _ _⟩
    · obtain ⟨K, hK⟩ := hidden k.toNat
      by_cases hl : r.length < k.toNat
      · have := hN.out; simp [first, hl] at this; obtain ⟨rfl, rfl⟩ := this
        rw [hK.out] at h0 h8 hl
        go_enter Try.func43, Try.ntmps43
        go_wp2
        go_ret2
        exact ⟨rfl, Below.refl _ _⟩
      · rw [hK.out] at h0 h8 hl
        go_enter Try.func43, Try.ntmps43
        go_wp2_with fail
        go_loopw [5, 6] (fun x i wr => wr = w ∧ ∃ m : Nat, m ≤ K ∧ i = .int .i64 ((m + 1 : Nat) : Int) ∧ x = .int .u64 ((val (r.take m) : Nat) : Int)) (fun _ i _ => K + 1 - (intOf i).toNat)
        case atStart => exact ⟨rfl, 0, Nat.zero_le _, rfl, by simp [val]⟩
        case round =>
          obtain ⟨rfl, m, hm, rfl, rfl⟩ := hrel
          by_cases hmk : m < K
          · have hcm := hj m (by omega)
            have hvs : val (r.take (m + 1)) = 256 * val (r.take m) + r[m].toNat := by rw [List.take_succ_eq_append_getElem (by omega), val_snoc]
            have hv64 := val_lt64 (r.take (m + 1)) (by simp; omega)
            have hc8 := r[m].toNat_lt
            obtain ⟨cc, hcc⟩ := hidden r[m].toNat
            obtain ⟨z, hz⟩ := hidden (val (r.take m))
            rw [hcc.out] at hcm hvs hc8
            rw [hz.out] at hvs ⊢
            have hz64 : 256 * z + cc < 18446744073709551616 := by omega
            have HV := hid hvs
            clear hvs hv64
            go_wp2_with fail
            go_roundw
            case rel => exact ⟨by first | trivial | rfl, m + 1, by omega, by go_num, by rw [HV.out]; go_num⟩
            case measure => simp [intOf]; omega
          · obtain rfl : m = K := by omega
            have hv64 := val_lt64 (r.take m) (by simp; omega)
            obtain ⟨z, hz⟩ := hidden (val (r.take m))
            rw [hz.out] at hv64 ⊢
            have hmc : m + 1 ≤ c := by omega
            have hmi : (1 : Int) + (m : Int) ≤ (c : Int) := by omega
            have hm0 : (0 : Int) ≤ 1 + (m : Int) := by omega
            have hmt : (1 + (m : Int)).toNat = 1 + m := by omega
            have hvt := RV_pre hv (t := 1 + m) (by omega)
            rw [show (k :: r).take (1 + m) = (k :: r).take (m + 1) by rw [Nat.add_comm]] at hvt
            have hnum : ∀ w', Below wr.heap.size wr w' → Calls Try.prog 42 #[.int .u64 (z : Int)] w' fun e w2 => ∃ v', e = .returned v' ∧ RV w2 v' (encN z).length 1 (bs (encN z)) ∧ Below wr.heap.size wr w2 := fun w' h1 => (number_calls z hv64 w').mono fun e w2 ⟨v', h3, h4, h5⟩ => ⟨v', h3, RV_own h4, below_size h1 h5⟩
            by_cases hE : encN z = (k :: r).take (m + 1)
            · have hcvA : ∀ w', Below wr.heap.size wr w' → Sem.run Try.prog (convert 23 9 (.slice (some ⟨b, o, none⟩) (1 + m) c)) w' = .ok (.string (st (encN z))) w' := fun w' h => by rw [hE]; exact conv_bytes (hvt.below h)
              have hF := hN.out
              have hf := first_of_enc z hv64 ((k :: r).drop (m + 1))
              rw [hE, List.take_append_drop] at hf
              have hm2 : m = nb z := by have := congrArg List.length hE; rw [encN_length] at this; simp at this; omega
              rw [hf] at hF
              simp only [Option.getD_some, Prod.mk.injEq] at hF
              obtain ⟨rfl, rfl⟩ := hF
              have HM := hid hm2
              have HE := hid hE
              clear hm2 hE hf
              go_upto_region 9 with (fail)
              go_region_held (fun w' => Below wr.heap.size wr w') (first | exact Below.refl _ _ | exact (Below.refl _ _).drew | assumption) (first | (go_at_call 42; refine (hnum _ (by assumption)).mono ?_; rintro e w2 ⟨v2, rfl, ho2, hbb⟩; have hcv1 := conv_bytes ho2))
              go_wp2_with fail
              go_ret2
              refine ⟨?_, by assumption⟩
              have e1 : ((nb z + 1 : Nat) : Int) = 1 + (m : Int) := by have := HM.out; omega
              rw [e1]; rfl
            · have hnone : first (k :: r) = none := by
                cases hf : first (k :: r) with
                | none => rfl
                | some y =>
                  exfalso
                  obtain ⟨x', s'⟩ := y
                  have h1 := (first_enc hf).1
                  simp only [first] at hf
                  split at hf
                  · cases hf
                  · simp only [Option.some.injEq, Prod.mk.injEq] at hf
                    obtain ⟨rfl, rfl⟩ := hf
                    rw [hK.out, hz.out] at h1
                    exact hE h1.symm
              have hF := hN.out
              rw [hnone] at hF
              simp only [Option.getD_none, Prod.mk.injEq] at hF
              obtain ⟨rfl, rfl⟩ := hF
              have hse : ¬ st (encN z) = st ((k :: r).take (m + 1)) := fun h => hE (st_inj.1 h)
              obtain ⟨s1, hs1⟩ := hidden (st (encN z))
              obtain ⟨s2, hs2⟩ := hidden (st ((k :: r).take (m + 1)))
              rw [hs1.out, hs2.out] at hse
              have hse2 := str_ne hse
              have hcvA : ∀ w', Below wr.heap.size wr w' → Sem.run Try.prog (convert 23 9 (.slice (some ⟨b, o, none⟩) (1 + m) c)) w' = .ok (.string s2) w' := fun w' h => by rw [← hs2.out]; exact conv_bytes (hvt.below h)
              go_upto_region 9 with (fail)
              go_region_held (fun w' => Below wr.heap.size wr w') (first | exact Below.refl _ _ | exact (Below.refl _ _).drew | assumption) (first | (go_at_call 42; refine (hnum _ (by assumption)).mono ?_; rintro e w2 ⟨v2, rfl, ho2, hbb⟩; have hcv1 := conv_bytes ho2; rw [hs1.out] at hcv1))
              go_wp2_with fail
              go_ret2
              exact ⟨rfl, by assumption⟩
end Go.Proofs.Ytgdemfjlhcepiaa
