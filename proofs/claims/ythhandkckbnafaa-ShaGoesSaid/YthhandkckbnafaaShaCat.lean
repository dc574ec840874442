/-
  The walks of slices.Clone, slices.Grow of nil and slices.Concat over bytes: what they answer, while it is at most 2^47 bytes.
-/
import Derived.Test.YthhandkckbnafaaProg
import Derived.Test.YthhandkckbnafaaK
import Derived.Test.YthhandkckbnafaaShelf
import Derived.Test.YthhandkckbnafaaWZeros
import Derived.Outline
set_option linter.unusedVariables false
set_option linter.unusedSimpArgs false
namespace Go.Proofs.Ythhandkckbnafaa
open Go.RowKit

theorem eq_bytes_nil (w : World) (a : Option Addr) (n c : Nat) : Sem.run Try.prog (binOp BinOp.eql 28 (Value.slice a n c) (Value.slice none 0 0)) w = Result.ok (Value.bool a.isNone) w := Lib.run_eql_slice_nil w 28 5 a n c 0 0 Try.underlying28
attribute [local go_sem] eq_bytes_nil
theorem info_u8 : (Try.prog.info? 5).map (fun i => (i.zero, i.size, i.bytes)) = some (some (.int .u8 0), 1, 1) := by kernel_rfl

theorem clone_bytes (v : Value) (xs : List UInt8) (w : World) (hv : RV w v xs.length 1 (bs xs)) (hl : xs.length ≤ 140737488355328) :
    Calls Try.prog 33 #[v] w fun e w' => ∃ v', e = .returned v' ∧ w'.ownsRow w.heap.size 5 1 v' xs.length (bs xs) ∧ Below w.heap.size w w' := by
  obtain ⟨_, A, c, rfl, hc1, hc2, hc3⟩ := id hv
  cases A with
  | none =>
    have hx : xs = [] := by
      cases xs with
      | nil => rfl
      | cons x r => obtain ⟨b, o, h, _⟩ := hc3 (by simp [bs]); exact absurd h (by simp)
    subst hx
    go_enter Try.func33, Try.ntmps33
    go_wp2
    go_ret
    exact ⟨_, rfl, World.ownsRow_nil _ _ _ _, Below.refl _ _⟩
  | some ad =>
    have hO := World.ownsRow_made (base := w.heap.size) (e := 5) (size := 1) w #[] 0 (Nat.le_refl _) (by decide) rfl
    have hr := hv.alloc (.cells #[] 5)
    go_enter Try.func33, Try.ntmps33
    go_wp2_with (at_builtin; refine wpList_append_rv (.tmp 5) (.tmp 6) 28 w.heap.size 5 (.int .u8 0) 1 1 Try.underlying28 info_u8 hO hr (bs_one xs) (by omega) (by simp) rfl rfl rfl rfl rfl (by decide) (by decide) ?_; intro v1 w1 hown hb hg)
    go_ret
    exact ⟨_, rfl, by simpa using hown, ((Below.refl _ _).alloc (Nat.le_refl _) _).trans hb⟩

theorem bs_snoc (xs : List UInt8) (b : UInt8) : bs xs ++ [.int .u8 (b.toNat : Int)] = bs (xs ++ [b]) := by simp [bs]
theorem own_len {w : World} {base : Nat} {e : TypeId} {size : Nat} {v : Value} {n n' : Nat} {xs ys : List Value} (h : w.ownsRow base e size v n xs) (hn : n = n') (hx : xs = ys) : w.ownsRow base e size v n' ys := by
  subst hn; subst hx; exact h

theorem wpList_zeros {P : Program} {w : World} {ops : Array Oper} {rest : List Oper} {o : Oper} {a : Act} {Q : Exit → Act → World → Prop} (s x : Operand) (t ti : TypeId) (v : Value) (k : IntKind) (m : Int) {v' : Value} {w' : World}
    (hrun : (Builtin.append_ #[t, ti] o.type #[v, .int k m]).run P w = .ok v' w') (hgd : o.guard = none) (ho : o.op = .call { callee := .builtin .append, args := #[s, x], argTypes := #[t, ti] }) (hs : a.eval s = v) (hx : a.eval x = .int k m)
    (h : wpList P ops Q rest (a.put o.dst v') w') : wpList P ops Q (o :: rest) a w := by
  refine wpList_plain hgd fun K hK => ?_
  unfold Oper.wp
  simp [execOp, ho, resolve, invoke, builtin, hs, hx, hrun, Result.andThen]
  exact hK _ _ h
theorem zeros_one (m : Nat) : ∀ u ∈ (Builtin.zeroCells (Value.int .u8 0).cells m).toList, u.oneCell' = true := by
  intro u hu
  unfold Builtin.zeroCells at hu
  rw [Array.toList_map, List.mem_map] at hu
  obtain ⟨i, _, rfl⟩ := hu
  rw [show (Value.int .u8 0).cells = #[.int .u8 0] from rfl, show i % (#[Value.int .u8 0] : Array Value).size = 0 from Nat.mod_one i]
  rfl
theorem grow_nil (m : Nat) (hm : m ≤ 140737488355328) (w : World) :
    Calls Try.prog 40 #[.slice none 0 0, .int .i64 (m : Int)] w fun e w' => ∃ v, e = .returned v ∧ w'.ownsRow w.heap.size 5 1 v 0 [] ∧ Below w.heap.size w w' := by
  have hneg : ¬ ((m : Int) < 0) := by omega
  go_enter Try.func40, Try.ntmps40
  by_cases h0 : m = 0
  · subst h0
    go_wp2
    go_ret
    exact ⟨_, rfl, World.ownsRow_nil _ _ _ _, Below.refl _ _⟩
  · obtain ⟨i, hi, hz, hsize, hby⟩ := info_parts info_u8
    obtain ⟨v', w', hrun, hown, hg, _⟩ := Go.Proofs.YthhandkckbnafaaW.PrintWords.run_append_zeros w w.heap.size 28 3 28 5 i (.int .u8 0) 1 1 Try.underlying28 Try.underlying3 hi hz hsize hby rfl (by decide) (by decide) (.slice none 0 0) 0 [] (World.ownsRow_nil _ _ _ _) .i64 m (zeros_one m) (by omega) (Nat.le_refl _)
    have hb : Below w.heap.size w w' := (Below.refl _ _).grown hg (Nat.le_refl _) (fun k hk => by simp [Value.ownBlock] at hk)
    have hpos : (0 : Int) < (m : Int) := by omega
    rcases hown.2 with ⟨hv, hn⟩ | ⟨g, cap, cur, rfl, hbg, hh, hnc, hcm, hcs, htk⟩
    · omega
    · have hown0 : w'.ownsRow w.heap.size 5 1 (.slice (some ⟨g, 0, none⟩) 0 cap) 0 [] := ⟨rfl, .inr ⟨g, cap, cur, rfl, hbg, hh, Nat.zero_le _, hcm, hcs, rfl⟩⟩
      have hcap : (0 : Int) ≤ (cap : Int) := by omega
      go_wp2_with (at_builtin; refine wpList_zeros (.tmp 20) (.tmp 21) 28 3 _ .i64 (m : Int) hrun rfl rfl rfl rfl ?_)
      go_ret
      exact ⟨_, rfl, hown0, hb⟩
set_option maxHeartbeats 1000000 in
theorem concat_calls (lv : Value) (l : List (List UInt8)) (w : World) (hlv : RBs w lv l) (hl : l.flatten.length ≤ 140737488355328) :
    Calls Try.prog 29 #[lv] w fun e w' => ∃ v', e = .returned v' ∧ w'.ownsRow w.heap.size 5 1 v' l.flatten.length (bs l.flatten) ∧ Below w.heap.size w w' := by
  obtain ⟨vs, hvs, hel⟩ := hlv
  obtain ⟨A, c, rfl⟩ := hvs.slice
  have hmax := hvs.max
  have hmono : ∀ k, (l.take k).flatten.length ≤ l.flatten.length := fun k => by
    have e : l.flatten = (l.take k).flatten ++ (l.drop k).flatten := by rw [← List.flatten_append, List.take_append_drop]
    rw [e, List.length_append]; omega
  have AM := hid hmono
  clear hmono
  go_enter Try.func29, Try.ntmps29
  go_wp2_with fail
  go_loopw [3, 11] (fun v i wr => ∃ k : Nat, k ≤ l.length ∧ i = .int .i64 k ∧ v = .int .i64 (((l.take k).flatten.length : Nat) : Int) ∧ w = wr) (fun _ i _ => l.length - (intOf i).toNat)
  case atStart => exact ⟨0, Nat.zero_le _, rfl, by simp, rfl⟩
  case round =>
    obtain ⟨k, hk, rfl, rfl, rfl⟩ := hrel
    by_cases hlt : k < l.length
    · obtain ⟨b, o, u, rfl, hu, hcell, hbw⟩ := hvs.at_ k hlt
      have hux := hel k u l[k] hu (List.getElem?_eq_getElem hlt)
      have hsucc := flatten_succ l k hlt
      obtain ⟨x, HX⟩ := hidden l[k]
      rw [HX.out] at hux hsucc
      obtain ⟨A', c', rfl⟩ := hux.slice
      have hxm := hux.max
      have h1 := AM.out (k + 1)
      rw [hsucc] at h1
      have HS := hid hsucc
      clear hsucc
      simp only [List.length_append] at h1
      obtain ⟨F, hF⟩ : ∃ F, (l.take k).flatten.length = F := ⟨_, rfl⟩
      rw [hF] at h1 ⊢
      have hnn : ¬ ((F : Int) + (x.length : Int) < 0) := by omega
      have hwf : wrap64 ((F : Int) + (x.length : Int)) = (F : Int) + (x.length : Int) := by unfold wrap64; omega
      have HF := hid hF
      clear hF
      go_wp2_with fail
      go_roundw
      case rel =>
        refine ⟨k + 1, by omega, by go_num, ?_, trivial⟩
        rw [show (l.take (k + 1)).flatten = (l.take k).flatten ++ x from HS.out, List.length_append, HF.out]
        simp
      case measure => simp [intOf]; omega
    · have hkl : k = l.length := by omega
      subst hkl
      rw [List.take_length]
      obtain ⟨FL, hFL⟩ : ∃ F, l.flatten.length = F := ⟨_, rfl⟩
      rw [hFL] at hl AM ⊢
      have HFL := hid hFL
      clear hFL
      go_wp2_with (go_at_call 40; refine (grow_nil FL hl _).mono ?_; rintro e w1 ⟨v1, rfl, ho1, hb1⟩)
      go_loopw [6, 27] (fun v i wr => ∃ k : Nat, k ≤ l.length ∧ i = .int .i64 k ∧ wr.ownsRow w.heap.size 5 1 v (l.take k).flatten.length (bs (l.take k).flatten) ∧ Below w.heap.size w wr) (fun _ i _ => l.length - (intOf i).toNat)
      case atStart => exact ⟨0, Nat.zero_le _, rfl, by simpa [bs] using ho1, hb1⟩
      case round =>
        obtain ⟨k, hk, rfl, hown, hb⟩ := hrel
        by_cases hlt : k < l.length
        · obtain ⟨b, o, u, rfl, hu, hcell, hbw⟩ := hvs.at_ k hlt
          have hux := hel k u l[k] hu (List.getElem?_eq_getElem hlt)
          have hcell2 : wr.cell? ⟨b, o + k, none⟩ = some u := (hb.cell hbw).trans hcell
          have hsucc := flatten_succ l k hlt
          obtain ⟨x, HX⟩ := hidden l[k]
          rw [HX.out] at hux hsucc
          obtain ⟨A', c', rfl⟩ := hux.slice
          have hxm := hux.max
          have h1 := AM.out (k + 1)
          rw [hsucc] at h1
          have HS := hid hsucc
          clear hsucc hcell
          simp only [List.length_append] at h1
          go_wp2_with (at_builtin; refine wpList_append_rv (.tmp 31) (.tmp 32) 28 w.heap.size 5 (.int .u8 0) 1 1 Try.underlying28 info_u8 hown (hux.below hb) (bs_one x) (by omega) hb.size rfl rfl rfl rfl rfl (by decide) (by decide) ?_; intro v3 w3 ho3 hb3 _)
          go_roundw
          case rel =>
            refine ⟨k + 1, by omega, by go_num, own_len ho3 ?_ ?_, hb.trans hb3⟩
            · rw [show (l.take (k + 1)).flatten = (l.take k).flatten ++ x from HS.out, List.length_append]
            · rw [show (l.take (k + 1)).flatten = (l.take k).flatten ++ x from HS.out, bs_append]
          case measure => simp [intOf]; omega
        · have hkl : k = l.length := by omega
          subst hkl
          rw [List.take_length] at hown
          go_wp2_with fail
          go_ret
          exact ⟨_, rfl, hown, hb⟩
end Go.Proofs.Ythhandkckbnafaa
