/-
  The walk of sha.Print: the digits of the base 16.
-/
import Derived.Test.YthhandkckbnafaaShaSum
set_option linter.unusedVariables false
set_option linter.unusedSimpArgs false
namespace Go.Proofs.Ythhandkckbnafaa
open Go.RowKit Go.Proofs.YthhandkckbnafaaZ.ZA Go.Proofs.YthhandkckbnafaaW.PrintWords Go.Proofs.YthhandkckbnafaaW.PrintLast Go.Proofs.YthhandkckbnafaaW.PrintMore
def HEX : ByteArray := { data := #[48, 49, 50, 51, 52, 53, 54, 55, 56, 57, 97, 98, 99, 100, 101, 102] }
def hexd (n : Nat) : UInt8 := HEX.data.toList.getD n 0
def hexB (b : UInt8) : List UInt8 := [hexd (b.toNat / 16), hexd (b.toNat % 16)]
def hexs (D : List UInt8) : List UInt8 := D.flatMap hexB
theorem hexs_length (D : List UInt8) : (hexs D).length = 2 * D.length := by
  induction D with
  | nil => rfl
  | cons x X ih => unfold hexs at *; rw [List.flatMap_cons, List.length_append, ih, List.length_cons]; show 2 + _ = _; omega
theorem index_hex (n : Nat) (hn : n < 16) (w : World) : Sem.run Try.prog (Instr.index 9 (.string { data := #[48, 49, 50, 51, 52, 53, 54, 55, 56, 57, 97, 98, 99, 100, 101, 102] }) (.int .u8 (n : Int))) w = .ok (.int .u8 ((hexd n).toNat : Int)) w := by
  match n, hn with
  | 0, _ => rfl
  | 1, _ => rfl
  | 2, _ => rfl
  | 3, _ => rfl
  | 4, _ => rfl
  | 5, _ => rfl
  | 6, _ => rfl
  | 7, _ => rfl
  | 8, _ => rfl
  | 9, _ => rfl
  | 10, _ => rfl
  | 11, _ => rfl
  | 12, _ => rfl
  | 13, _ => rfl
  | 14, _ => rfl
  | 15, _ => rfl
  | n + 16, h => exact absurd h (by omega)
theorem index_b32 (A : Array Value) (k : Nat) (v : Int) (hk : k < 32) (hA : A[k]? = some (.int .u8 v)) (w : World) : Sem.run Try.prog (Instr.index 26 (.agg A) (.int .i64 (k : Int))) w = .ok (.int .u8 v) w := by
  have h0 : (0 : Int) ≤ (k : Int) := by omega
  have h1 : (k : Int) < 32 := by omega
  unfold Instr.index
  go_simp
/-- What is put together so far. -/
def KP (w W : World) (v : Value) (acc : List UInt8) : Prop := W.ownsRow w.heap.size 5 1 v acc.length (bs acc) ∧ Below w.heap.size w W
theorem KP.below {w W W' : World} {v : Value} {acc : List UInt8} (h : KP w W v acc) (hb : Below W.heap.size W W') : KP w W' v acc := ⟨Go.Proofs.Ythhandkckbnafaa.own_below h.1 hb, h.2.trans (hb.mono h.2.size)⟩
theorem KP.alloc {w W : World} {v : Value} {acc : List UInt8} (h : KP w W v acc) (o : Obj) : KP w (W.alloc o) v acc := h.below ((Below.refl _ _).alloc (Nat.le_refl _) o)
theorem KP.drew {w W : World} {v : Value} {acc : List UInt8} (h : KP w W v acc) : KP w W.drew v acc := h.below (Below.refl _ _).drew
theorem lit2b (w : World) (x y : UInt8) : RV (w.alloc (.cells #[.int .u8 (x.toNat : Int), .int .u8 (y.toNat : Int)] 5)) (.slice (some ⟨w.heap.size, 0, none⟩) 2 2) 2 1 (bs [x, y]) := RV_new w (bs [x, y]) 5 2 1 (0, 0) rfl (by decide)
theorem app2 {w W : World} {v : Value} {acc : List UInt8} {A : Option Addr} {x y : UInt8} (h : KP w W v acc) (hl : RV W (.slice A 2 2) 2 1 (bs [x, y])) (hn : acc.length + 2 ≤ 1000000) :
    ∃ v' w', (Builtin.append_ #[28, 28] 28 #[v, .slice A 2 2]).run Try.prog W = .ok v' w' ∧ KP w w' v' (acc ++ [x, y]) ∧ True := by
  obtain ⟨i, hi, hz, hsize, hby⟩ := info_parts info_u8
  obtain ⟨_, A', c', e, _, _, h3⟩ := hl
  rw [Value.slice.injEq] at e
  obtain ⟨rfl, -, rfl⟩ := e
  obtain ⟨b, o, rfl, hc⟩ := h3 (by simp [bs])
  obtain ⟨v', w', hrun, hown, hg, _⟩ := run_append_own (P := Try.prog) W w.heap.size 28 28 5 i (.int .u8 0) 1 1 Try.underlying28 hi hz hsize hby rfl (by decide) v acc.length (bs acc) h.1 ⟨b, o, none⟩ 2 2 (bs [x, y]) rfl (fun j u hj => by rw [add_plain]; exact hc j u hj) (bs_one _) (by unfold maxLen; omega) (by omega) h.2.size
  refine ⟨v', w', hrun, ⟨?_, h.2.grown hg h.2.size (fun k hk => own_ge h.1 k hk)⟩, trivial⟩
  rw [List.length_append, bs_append]
  exact hown
theorem exec_append {P : Program} {o : Oper} {a : Act} {w w' : World} {v y v' : Value} (s x : Operand) (t u : TypeId) (ho : o.op = .call { callee := .builtin .append, args := #[s, x], argTypes := #[t, u] }) (hs : a.eval s = v) (hx : a.eval x = y)
    (hr : (Builtin.append_ #[t, u] o.type #[v, y]).run P w = .ok v' w') : (execOp a.eval o).run P w = .ok (.value v') w' := by
  simp [execOp, ho, resolve, invoke, builtin, hs, hx, hr]
theorem and15_all : ((List.range 256).all fun m => Go.bits .and .u8 ((m : Nat) : Int) 15 == ((m : Nat) : Int) % 16) = true := by kernel_rfl
theorem and15 (b : Nat) (h : b < 256) : Go.bits .and .u8 (b : Int) 15 = (b : Int) % 16 := eq_of_beq (List.all_eq_true.1 and15_all b (List.mem_range.2 h))
set_option maxHeartbeats 2000000 in
set_option maxRecDepth 100000 in
theorem print_calls (D : List UInt8) (hD : D.length = 32) (w : World) :
    Calls Try.prog 24 #[.agg (bs D).toArray] w fun e w' => e = .returned (.string (st (hexs D))) ∧ Below w.heap.size w w' := by
  have hs32 : (Try.prog.info? 26).map (·.size) = some (bs D).length := by rw [bs_length, hD]; exact size32
  have hrd : ∀ W : World, ∀ j u, (bs D)[j]? = some u → (W.alloc (.cells (bs D).toArray 26)).cell? ⟨W.heap.size, 0 + j, none⟩ = some u := fun W j u hj => by rw [blk_cell (heap_alloc_new W _), Nat.zero_add, List.getElem?_toArray]; exact hj
  have hat : ∀ k, k < 32 → (bs D)[k]? = some (.int .u8 ((D.getD k 0).toNat : Int)) := fun k hk => by unfold bs; rw [List.getElem?_map, List.getD, List.getElem?_eq_getElem (by omega : k < D.length)]; rfl
  have hbl := (Below.refl w.heap.size w).alloc (Nat.le_refl _) (.cells (bs D).toArray 26)
  have AAT := Aside0.mk hat
  clear hat
  generalize hDV : bs D = DV at hs32 hrd AAT hbl ⊢
  clear hDV
  have hr1 := hrd w
  go_enter Try.func24, Try.ntmps24
  go_wp2_with (refine wpList_load_at 26 (.tmp 1) w.heap.size 0 DV _ hr1 Try.underlying26 rfl hs32 rfl rfl rfl ?_)
  have K0 : KP w (w.alloc (.cells DV.toArray 26)) (.slice none 0 0) (hexs (D.take 0)) := ⟨World.ownsRow_nil _ _ _ _, hbl⟩
  clear hr1 hrd hs32 hbl
  go_loopw [3, 7] (fun v i wr => ∃ k : Nat, k ≤ 32 ∧ i = .int .i64 (k : Int) ∧ KP w wr v (hexs (D.take k))) (fun _ i _ => 32 - (intOf i).toNat)
  case atStart => exact ⟨0, Nat.zero_le _, rfl, K0⟩
  case round =>
    clear K0
    obtain ⟨k, hk, rfl, hK⟩ := hrel
    by_cases hlt : k < 32
    · obtain ⟨b, hb⟩ : ∃ b, (D.getD k 0).toNat = b := ⟨_, rfl⟩
      have hcell := AAT.out k hlt
      rw [hb] at hcell
      have hbl : b < 256 := by rw [← hb]; exact (D.getD k 0).toNat_lt
      have hsucc : hexs (D.take (k + 1)) = hexs (D.take k) ++ [hexd (b / 16), hexd (b % 16)] := by
        unfold hexs
        rw [flat_succ hexB D k (by omega), ← hb, List.getD, List.getElem?_eq_getElem (by omega)]
        rfl
      have hlen : (hexs (D.take k)).length ≤ 64 := by rw [hexs_length, List.length_take]; omega
      have hix : ∀ w' : World, Sem.run Try.prog (Instr.index 26 (.agg DV.toArray) (.int .i64 (k : Int))) w' = .ok (.int .u8 (b : Int)) w' := fun w' => index_b32 _ k b hlt (by rw [List.getElem?_toArray]; exact hcell) w'
      have hx1 := index_hex (b / 16) (by omega)
      have hx2 := index_hex (b % 16) (by omega)
      rw [show ((b / 16 : Nat) : Int) = (b : Int) / 16 by omega] at hx1
      rw [show ((b % 16 : Nat) : Int) = (b : Int) % 16 by omega] at hx2
      have e2 := and15 b hbl
      generalize hexd (b / 16) = d1 at hx1 hsucc
      generalize hexd (b % 16) = d2 at hx2 hsucc
      have AS := Aside0.mk hsucc
      have AHB := Aside0.mk hb
      clear hsucc hcell hb
      generalize hexs (D.take k) = acc at hK AS hlen
      have KP12 := hK.drew
      go_wp2_with fail
      refine start_ (n := 10) (S := fun w' => True) (ds := []) #[false, false, false, false, false, false, false, false, false, false] (by kernel_rfl) rfl rfl trivial (fun hHeld => ?_)
      generalize wr.drew = w12 at KP12 hHeld ⊢
      refine pure_ (i := 0) (N := some 10) (v := ?_) (a' := ?_) #[true, false, false, false, false, false, false, false, false, false] rfl rfl (by kernel_rfl) (fun _ _ _ h => h) (Or.inl ⟨by rfl, ?_⟩) ?_ ?_
      rotate_left
      · intro w'
        go_simp
        with_reducible rfl
      rotate_left
      · simp only [Act.put, List.setIfInBounds_toArray, List.set_cons_zero, List.set_cons_succ, i64_w, i32_w]
        rfl
      refine pure_ (i := 1) (N := some 11) (v := ?_) (a' := ?_) #[true, true, false, false, false, false, false, false, false, false] rfl rfl (by kernel_rfl) (fun _ _ _ h => h) (Or.inl ⟨by rfl, ?_⟩) ?_ ?_
      rotate_left
      · intro w'
        go_simp
        with_reducible rfl
      rotate_left
      · simp only [Act.put, List.setIfInBounds_toArray, List.set_cons_zero, List.set_cons_succ, i64_w, i32_w]
        rfl
      refine pure_ (i := 2) (N := some 12) (v := ?_) (a' := ?_) #[true, true, true, false, false, false, false, false, false, false] rfl rfl (by kernel_rfl) (fun _ _ _ h => h) (Or.inl ⟨by rfl, ?_⟩) ?_ ?_
      rotate_left
      · intro w'
        go_simp
        with_reducible rfl
      rotate_left
      · simp only [Act.put, List.setIfInBounds_toArray, List.set_cons_zero, List.set_cons_succ, i64_w, i32_w]
        rfl
      refine pure_ (i := 4) (N := some 14) (v := ?_) (a' := ?_) #[true, true, true, false, true, false, false, false, false, false] rfl rfl (by kernel_rfl) (fun _ _ _ h => h) (Or.inl ⟨by rfl, ?_⟩) ?_ ?_
      rotate_left
      · intro w'
        go_simp
        with_reducible rfl
      rotate_left
      · simp only [Act.put, List.setIfInBounds_toArray, List.set_cons_zero, List.set_cons_succ, i64_w, i32_w]
        rfl
      refine pure_ (i := 5) (N := some 15) (v := ?_) (a' := ?_) #[true, true, true, false, true, true, false, false, false, false] rfl rfl (by kernel_rfl) (fun _ _ _ h => h) (Or.inl ⟨by rfl, ?_⟩) ?_ ?_
      rotate_left
      · intro w'
        go_simp
        with_reducible rfl
      rotate_left
      · simp only [Act.put, List.setIfInBounds_toArray, List.set_cons_zero, List.set_cons_succ, i64_w, i32_w]
        rfl
      refine take_ (i := 3) (N := some 13) (v := ?_) (a' := ?_) #[true, true, true, true, true, true, false, false, false, false] rfl rfl (by kernel_rfl) (fun _ _ _ h => h) (Or.inl ⟨by rfl, ?_⟩) hHeld ?_ ?_
      rotate_left
      · intro w' _
        go_simp
        with_reducible rfl
      rotate_left
      · simp only [Act.put, List.setIfInBounds_toArray, List.set_cons_zero, List.set_cons_succ, i64_w, i32_w]
        rfl
      refine take_ (i := 6) (N := some 16) (v := ?_) (a' := ?_) #[true, true, true, true, true, true, true, false, false, false] rfl rfl (by kernel_rfl) (fun _ _ _ h => h) (Or.inl ⟨by rfl, ?_⟩) hHeld ?_ ?_
      rotate_left
      · intro w' _
        go_simp
        with_reducible rfl
      rotate_left
      · simp only [Act.put, List.setIfInBounds_toArray, List.set_cons_zero, List.set_cons_succ, i64_w, i32_w]
        rfl
      refine one_ (i := 7) (N := some 17) #[true, true, true, true, true, true, true, true, false, false] rfl rfl (by kernel_rfl) (by decide) (fun K hK => ?_)
      refine value_ (w1 := ?_) (v := ?_) (by rfl) rfl ?_ ?_
      rotate_left 2
      · go_simp
        constructor
        · rfl
        · rfl
      have KP13 := KP12.alloc (.cells (bs [d1, d2]).toArray 5)
      have L13 := lit2b w12 d1 d2
      have hb13 : w.heap.size ≤ (w12.alloc (.cells (bs [d1, d2]).toArray 5)).heap.size := KP13.2.size
      have KQ13 : KP w (World.alloc w12 (.cells #[.int .u8 (d1.toNat : Int), .int .u8 (d2.toNat : Int)] 5)) u3 acc := KP13
      clear KP13 hb13
      generalize World.alloc w12 _ = w13 at KQ13 L13 ⊢
      obtain ⟨v14, w14, hrun, ho14, hg14⟩ := app2 KQ13 L13 (by omega)
      refine hK.out _ _ trivial (fun hHeld => ?_)
      clear hK K
      refine norm_ (a' := ?_) ?_ ?_
      rotate_left
      · show Act.put _ (some 17) _ = _
        simp only [Act.put, List.setIfInBounds_toArray, List.set_cons_zero, List.set_cons_succ, i64_w, i32_w]
        rfl
      refine one_ (i := 8) (N := some 18) #[true, true, true, true, true, true, true, true, true, false] rfl rfl (by kernel_rfl) (by decide) (fun K hK => ?_)
      refine value_ (w1 := w14) (v := v14) (by rfl) rfl (exec_append (.tmp 10) (.tmp 17) 28 28 rfl rfl rfl hrun) ?_
      refine hK.out _ _ trivial (fun hHeld => ?_)
      clear hK K
      refine norm_ (a' := ?_) ?_ ?_
      rotate_left
      · show Act.put _ (some 18) _ = _
        simp only [Act.put, List.setIfInBounds_toArray, List.set_cons_zero, List.set_cons_succ, i64_w, i32_w]
        rfl
      refine pure_ (i := 9) (N := some 3) (v := ?_) (a' := ?_) #[true, true, true, true, true, true, true, true, true, true] rfl rfl (by kernel_rfl) (fun _ _ _ h => h) (Or.inl ⟨by rfl, ?_⟩) ?_ ?_
      rotate_left
      · intro w'
        go_simp
        with_reducible rfl
      rotate_left
      · simp only [Act.put, List.setIfInBounds_toArray, List.set_cons_zero, List.set_cons_succ, i64_w, i32_w]
        rfl
      refine done_ (by kernel_rfl) ?_
      clear KP12 KQ13 L13 hrun
      go_wp2_with fail
      go_roundw
      case rel => exact ⟨k + 1, by omega, by go_num, by rw [AS.out]; exact ho14⟩
      case measure => simp [intOf]; omega
    · have hk32 : k = 32 := by omega
      subst hk32
      rw [List.take_of_length_le (by omega)] at hK
      have hcv := conv_rv (P := Try.prog) (w := wr) 28 5 9 Try.underlying28 Try.underlying5 Try.underlying9 (RV_own hK.1)
      generalize hT : st (hexs D) = T at hcv
      have AT := Aside0.mk hT
      clear hT
      go_wp2_with fail
      go_ret
      rw [AT.out]
      exact ⟨rfl, hK.2⟩

end Go.Proofs.Ythhandkckbnafaa
