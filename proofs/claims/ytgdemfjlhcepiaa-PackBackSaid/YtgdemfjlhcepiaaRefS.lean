/-
  The document's pack: sums behind bytes.
-/
import Derived.Test.YtgdemfjlhcepiaaRefB
set_option linter.unusedVariables false
set_option linter.unusedSimpArgs false
namespace Go.Proofs.Ytgdemfjlhcepiaa
open Go.RowKit
set_option maxHeartbeats 1000000 in
theorem rsums_calls (v lv : Value) (xs : List UInt8) (l : List (List UInt8)) (w : World) (hv : RV w v xs.length 1 (bs xs)) (hvs : RV w lv l.length 32 (l.flatMap bs)) (h32 : ∀ x ∈ l, x.length = 32) (hl : xs.length + 32 * l.length ≤ 140737488355328) :
    Calls Try.prog 24 #[v, lv] w fun e w' => ∃ v', e = .returned v' ∧ w'.ownsRow w.heap.size 5 1 v' (xs ++ l.flatten).length (bs (xs ++ l.flatten)) ∧ Below w.heap.size w w' := by
  obtain ⟨A, c, rfl⟩ := hvs.slice
  have hmax := hvs.max
  have hO := World.ownsRow_made (base := w.heap.size) (e := 5) (size := 1) w #[] 0 (Nat.le_refl _) (by decide) rfl
  have hr := hv.alloc (.cells #[] 5)
  have hl1 : xs.length ≤ 140737488355328 := by omega
  go_enter Try.func24, Try.ntmps24
  go_wp2_with (at_builtin; refine wpList_append_rv (.tmp 8) (.tmp 9) 23 w.heap.size 5 (.int .u8 0) 1 1 Try.underlying23 info_u8 hO hr (bs_one xs) (by omega) (by simp) rfl rfl rfl rfl rfl (by decide) (by decide) ?_; intro v1 w1 hown1 hb1 hg1)
  have hown2 : w1.ownsRow w.heap.size 5 1 v1 xs.length (bs xs) := by simpa using hown1
  have hb2 : Below w.heap.size w w1 := ((Below.refl _ _).alloc (Nat.le_refl _) _).trans hb1
  clear hO hr hown1 hb1 hg1
  go_wp2_with fail
  go_loopw [5, 6, 7] (fun v i j wr => ∃ k : Nat, k ≤ l.length ∧ i = .int .i64 k ∧ wr.ownsRow w.heap.size 5 1 v (xs ++ (l.take k).flatten).length (bs (xs ++ (l.take k).flatten)) ∧ Below w.heap.size w wr) (fun _ i _ _ => l.length - (intOf i).toNat)
  case atStart => exact ⟨0, Nat.zero_le _, rfl, by simpa using hown2, hb2⟩
  case round =>
    clear hown2 hb2
    obtain ⟨k, hk, rfl, hown, hb⟩ := hrel
    by_cases hlt : k < l.length
    · obtain ⟨hll, _, _, e, _, _, hcs⟩ := id hvs
      simp only [Value.slice.injEq] at e
      obtain ⟨rfl, _, rfl⟩ := e
      obtain ⟨b, o, rfl, hcell⟩ := hcs (by intro h; rw [h] at hll; simp at hll; omega)
      have hx32 := h32 l[k] (List.getElem_mem hlt)
      have hce : ∀ j u, (bs l[k])[j]? = some u → w.cell? ⟨b, o + k * 32 + j, none⟩ = some u := fun j u hj => by
        have := hcell _ u (flat_at bs 32 l (fun x hx => by rw [bs_length]; exact h32 x hx) k hlt j u hj)
        rw [← Nat.add_assoc] at this
        exact this
      have hsucc := flatten_succ l k hlt
      obtain ⟨x, HX⟩ := hidden l[k]
      rw [HX.out] at hce hsucc hx32
      have HS := hid hsucc
      clear hsucc hcell hll hvs hcs
      obtain ⟨pre, HP⟩ := hidden (xs ++ (l.take k).flatten)
      rw [HP.out] at hown
      have hpl : pre.length = xs.length + 32 * k := by
        rw [← HP.out, List.length_append]
        have : ∀ m, m ≤ l.length → (l.take m).flatten.length = 32 * m := by
          intro m hm
          induction m with
          | zero => simp
          | succ m ih => rw [flatten_succ l m (by omega), List.length_append, ih (by omega), h32 _ (List.getElem_mem _)]; omega
        rw [this k hk]
      have hpl2 : pre.length + 32 ≤ 140737488355328 := by omega
      clear hpl
      go_wp2_with fail
      go_loopw [5, 7] (fun v j wr2 => ∃ m : Nat, m ≤ 32 ∧ j = .int .i64 m ∧ wr2.ownsRow w.heap.size 5 1 v (pre ++ x.take m).length (bs (pre ++ x.take m)) ∧ Below w.heap.size w wr2) (fun _ j _ => 32 - (intOf j).toNat)
      case atStart => exact ⟨0, by omega, rfl, by simpa using hown, hb⟩
      case round =>
        clear hown hb
        obtain ⟨m, hm, rfl, hown, hb⟩ := hrel
        by_cases hm2 : m < 32
        · have hcell := hce m _ (bs_at x m (by omega))
          have hcell2 := (hb.cell (World.block_lt_of_cell? w _ hcell)).trans hcell
          have hlen : (pre ++ x.take m).length = pre.length + m := by simp; omega
          obtain ⟨cb, HC⟩ := hidden x[m]
          rw [HC.out] at hcell2
          rw [hlen] at hown
          clear hlen hcell hce
          have hz := hb.size
          go_wp2_with (at_builtin; refine wpList_append_one (.tmp 21) (.tmp 28) 23 w.heap.size 5 (.int .u8 0) 1 Try.underlying23 info_u8 hown _ rfl (by omega) (by omega) rfl rfl rfl rfl rfl (by decide) ?_; intro v3 w3 hown3 hb3)
          go_roundw
          case rel =>
            refine ⟨m + 1, by omega, by go_num, own_len hown3 (by simp; omega) ?_, hb.trans hb3⟩
            rw [bs_snoc, List.append_assoc, ← HC.out, List.take_succ_eq_append_getElem (by omega)]
          case measure => simp [intOf]; omega
        · obtain rfl : m = 32 := by omega
          go_wp2
          go_roundw
          case rel =>
            refine ⟨k + 1, by omega, by go_num, ?_, hb⟩
            rw [HS.out, ← List.append_assoc, HP.out]
            rw [List.take_of_length_le (by omega)] at hown
            exact hown
          case measure => simp [intOf]; omega
    · go_wp2
      go_ret
      exact ⟨_, rfl, by simpa [show k = l.length by omega] using hown, hb⟩
end Go.Proofs.Ytgdemfjlhcepiaa
