/-
  Two arrays of 32 bytes compared; an array that is an argument opened.
-/
import Derived.Test.YthhandkckbnafaaShaAwake
import Derived.Test.YthhandkckbnafaaO
import Derived.ChangeKeysEq
import Derived.Laws.StructEq
set_option linter.unusedVariables false
set_option linter.unusedSimpArgs false
namespace Go.Proofs.Ythhandkckbnafaa
open Go.RowKit Go.ChangeShapes Go.WideShapes Go.ChangeAt
theorem bs_get (D : List UInt8) (i : Nat) (h : i < D.length) : (bs D).toArray[i]? = some (.int .u8 ((D[i]).toNat : Int)) := by rw [List.getElem?_toArray]; exact bs_at D i h
theorem plain_u8 : Try.prog.plainKey 5 = true := by kernel_rfl
theorem arr_loop (d : Nat) (D E : List UInt8) (hD : D.length = 32) (hE : E.length = 32) (w : World) : ∀ (m i : Nat), i + m = 32 →
    Sem.run Try.prog (forIn (m := Sem) (List.range' i m) ((none, ()) : Option Bool × Unit) fun i (__s : Option Bool × Unit) => do
            let __do_lift ← part 5 (bs D).toArray i
            let __do_lift_1 ← part 5 (bs E).toArray i
            let __do_lift ← Op.equalIn (d + 1) 5 __do_lift __do_lift_1
            if __do_lift = false then pure (ForInStep.done (some false, ())) else pure (ForInStep.yield (none, ()))) w =
      .ok (if D.drop i == E.drop i then (none, ()) else (some false, ())) w := by
  intro m
  induction m with
  | zero =>
    intro i hi
    rw [List.drop_eq_nil_of_le (by omega), List.drop_eq_nil_of_le (by omega)]
    simp
  | succ m ih =>
    intro i hi
    have h1 := bs_get D i (by omega)
    have h2 := bs_get E i (by omega)
    rw [List.range'_succ]
    simp only [List.forIn_cons, Sem.run_bind, run_part_plain w plain_u8 h1, run_part_plain w plain_u8 h2, Result.andThen_ok, run_equalIn_int w d 5 .u8 .u8 _ _ Try.underlying5]
    have hq : (D.drop i == E.drop i) = ((D[i] == E[i]) && (D.drop (i + 1) == E.drop (i + 1))) := by
      rw [List.drop_eq_getElem_cons (by omega : i < D.length), List.drop_eq_getElem_cons (by omega : i < E.length)]
      rfl
    rw [hq]
    by_cases he : D[i] = E[i]
    · have hb : (((D[i]).toNat : Int) == ((E[i]).toNat : Int)) = true := by rw [he]; simp
      have hb2 : (D[i] == E[i]) = true := by rw [he]; simp
      rw [hb, hb2]
      simp only [Bool.true_eq_false, if_false, Sem.run_pure, Result.andThen_ok, Bool.true_and]
      exact ih (i + 1) (by omega)
    · have hb : (((D[i]).toNat : Int) == ((E[i]).toNat : Int)) = false := by
        rw [beq_eq_false_iff_ne]
        intro h
        exact he (UInt8.toNat_inj.1 (by omega))
      have hb2 : (D[i] == E[i]) = false := by rw [beq_eq_false_iff_ne]; exact he
      rw [hb, hb2]
      simp
theorem arr_eq (d : Nat) (D E : List UInt8) (hD : D.length = 32) (hE : E.length = 32) (w : World) : (Op.equalIn (d + 2) 26 (.agg (bs D).toArray) (.agg (bs E).toArray)).run Try.prog w = .ok (D == E) w := by
  unfold Op.equalIn
  rw [Sem.run_bind, run_underlying Try.underlying26]
  simp only [Result.andThen_ok]
  simp [Std.Legacy.Range.forIn_eq_forIn_range']
  rw [arr_loop d D E hD hE w 32 0 rfl]
  simp only [Result.andThen_ok, List.drop_zero]
  by_cases h : D = E
  · subst h; simp
  · have hb : (D == E) = false := by rw [beq_eq_false_iff_ne]; exact h
    rw [hb]; simp
theorem mapM_each {α β : Type} {f : α → Option β} : ∀ (l : List α) {r : List β}, l.mapM f = some r → ∀ x ∈ l, ∃ y, f x = some y
  | [], _, _, _, hx => by simp at hx
  | a :: l, r, h, x, hx => by
    rw [List.mapM_cons] at h
    cases h1 : f a with
    | none => rw [h1] at h; simp at h
    | some y =>
      rw [h1] at h
      cases h2 : l.mapM f with
      | none => simp [h2] at h
      | some ys =>
        rcases List.mem_cons.1 hx with rfl | hx
        · exact ⟨y, h1⟩
        · exact mapM_each l h2 x hx
section
variable {H : Type} {enc : TypeId × Value → H} {P : Program} {w : World} {base : Nat} {sp : Nat → Bool} {hd : Bool} {r : Reach} {b0 : Nat} {v : Value} {d : DataW H} {ps : List MemPlace}
def byteOf : Value → UInt8
  | .int _ n => UInt8.ofNat n.toNat
  | _ => 0
theorem arg_arr {t e : TypeId} {n : Nat} (ht : P.underlying t = some (.array n e)) (he : P.underlying e = some (.int .u8)) (hc : P.cellsOf e = 1) (hct : P.cellsOf t = n) (hval : Value.okWide P w r b0 t v) (h : DataW.Trod enc P w base sp hd t v d ps) :
    ∃ D : List UInt8, D.length = n ∧ v = .agg (bs D).toArray := by
  unfold Value.okWide at hval
  rw [ht] at hval
  obtain ⟨cs, rfl, hsz, _⟩ := hval
  obtain ⟨fuel, hf⟩ := h
  have hcell : ∀ i, i < n → ∃ m : Int, cs[i]? = some (.int .u8 m) ∧ 0 ≤ m ∧ m < 256 := by
    intro i hi
    cases fuel with
    | zero => simp [DataW.trod] at hf
    | succ fuel =>
      unfold DataW.trod at hf
      simp only [ht] at hf
      have hl : (Value.agg cs).cells.toList.length = P.cellsOf t := by rw [← hsz]; simp [Value.cells]
      rw [if_pos hl] at hf
      cases hm : (List.range n).mapM (fun i => DataW.trod enc P w base sp hd fuel e (((Value.agg cs).cells.toList.drop (i * P.cellsOf e)).take (P.cellsOf e))) with
      | none => rw [hm] at hf; simp at hf
      | some x =>
        obtain ⟨y, hy⟩ := mapM_each _ hm i (List.mem_range.2 hi)
        rw [hc, Nat.mul_one] at hy
        have hi' : i < cs.toList.length := by rw [Array.length_toList]; omega
        rw [show (Value.agg cs).cells.toList = cs.toList from rfl, List.drop_eq_getElem_cons hi', List.take_succ_cons, List.take_zero] at hy
        cases fuel with
        | zero => simp [DataW.trod] at hy
        | succ fuel =>
          unfold DataW.trod at hy
          rw [he] at hy
          have hci : cs[i]? = some (cs.toList[i]) := by rw [Array.getElem_toList, Array.getElem?_eq_getElem]
          cases hv : cs.toList[i] with
          | int k m =>
            rw [hv] at hy
            simp only at hy
            split at hy
            · rename_i hk
              rw [hci, hv, hk.1]
              have := u8_wf hk.2
              exact ⟨m, rfl, this.1, this.2⟩
            · simp at hy
          | _ => rw [hv] at hy; simp at hy
  refine ⟨cs.toList.map byteOf, by rw [List.length_map, Array.length_toList, hsz, hct], ?_⟩
  congr 1
  apply Array.ext'
  apply List.ext_getElem?
  intro i
  unfold bs
  simp only [List.getElem?_map, List.map_map]
  by_cases hi : i < n
  · obtain ⟨m, hm, h0, h1⟩ := hcell i hi
    rw [Array.getElem?_toList, hm]
    simp [byteOf]
    omega
  · rw [List.getElem?_eq_none (by rw [Array.length_toList, hsz, hct]; omega)]; rfl
end
end Go.Proofs.Ythhandkckbnafaa
