/-
  The walk of the document's Sum, over what its Message and its Block answer.
-/
import Derived.Test.YthhandkckbnafaaShaRef
import Derived.Test.YthhandkckbnafaaZAx
set_option linter.unusedVariables false
set_option linter.unusedSimpArgs false
namespace Go.Proofs.Ythhandkckbnafaa
open Go.RowKit Go.Proofs.YthhandkckbnafaaZ.ZA Go.Proofs.YthhandkckbnafaaW.PrintWords Go.Proofs.YthhandkckbnafaaW.PrintLast Go.Proofs.YthhandkckbnafaaW.PrintMore
def ints (L : List Nat) : List Int := L.map fun (x : Nat) => (x : Int)
theorem u32s_ints (L : List Nat) : u32s L = (ints L).map (Value.int .u32) := by unfold u32s ints; rw [List.map_map]; rfl
theorem wrap64_idB (z : Int) (h0 : -9000000000000 ≤ z) (h1 : z ≤ 9000000000000) : wrap64 z = z := by unfold wrap64; omega
theorem u32_id (z : Int) (h0 : 0 ≤ z) (h1 : z < 4294967296) : IntKind.u32.wrap z = z := by
  rw [IntKind.wrap_u32']; omega
theorem C_of_RV {α : Type} {enc : α → Value} {h1 : ∀ x, (enc x).oneCell' = true} {w : World} {A : Option Addr} {n c : Nat} {xs : List α} (h : RV w (.slice A n c) n 1 (xs.map enc)) : (Kd.scalar enc h1).C w A n xs ∧ n ≤ c ∧ xs.length = n := by
  obtain ⟨hl, A', c', e, h2, h3, h4⟩ := h
  rw [Value.slice.injEq] at e
  obtain ⟨rfl, -, rfl⟩ := e
  have hxl : xs.length = n := by simpa using hl
  refine ⟨⟨hxl, by unfold maxLen at h3; omega, fun hn => ?_⟩, h2, hxl⟩
  obtain ⟨b, o, rfl, hc⟩ := h4 (by intro e; have := congrArg List.length e; simp at this; rw [this] at hxl; simp at hxl; omega)
  refine ⟨⟨b, o, none⟩, rfl, fun j p hj => ⟨[enc p], rfl, rfl, fun i u hu => ?_⟩⟩
  have hi : i = 0 := by have := (List.getElem?_eq_some_iff.1 hu).1; simp at this; exact this
  subst hi
  obtain rfl : enc p = u := by simpa using hu
  rw [Go.Proofs.Ythhandkckbnafaa.add_plain, show j * (Kd.scalar enc h1).sz + 0 = j from by show j * 1 + 0 = j; omega]
  exact hc j _ (by rw [List.getElem?_map, hj]; rfl)
theorem bytes_C {w : World} {A : Option Addr} {n c : Nat} {xs : List UInt8} (h : RV w (.slice A n c) n 1 (bs xs)) : (Kd.int .u8).C w A (ofB xs).length (ofB xs) ∧ (ofB xs).length ≤ c ∧ (ofB xs).length = n := by
  rw [bs_ofB] at h
  have := C_of_RV (h1 := fun _ => rfl) h
  obtain ⟨h1, h2, h3⟩ := this
  exact ⟨by rw [h3]; exact h1, by omega, h3⟩
theorem words_C {w : World} {A : Option Addr} {n c : Nat} {X : List Nat} (h : RV w (.slice A n c) n 1 (u32s X)) : (Kd.int .u32).C w A (ints X).length (ints X) ∧ (ints X).length ≤ c ∧ (ints X).length = n := by
  rw [u32s_ints] at h
  have := C_of_RV (h1 := fun _ => rfl) h
  obtain ⟨h1, h2, h3⟩ := this
  exact ⟨by rw [h3]; exact h1, by omega, h3⟩
theorem R_words {w : World} {e base : Nat} {ok : Nat → Prop} {v : Value} {X : List Nat} (h : Kd.R (Kd.int .u32) e w base ok v (ints X)) : RV w v X.length 1 (u32s X) := by
  have h2 := RV_own (Kd.own_of_R h)
  rw [show (ints X).length = X.length by unfold ints; rw [List.length_map]] at h2
  rw [u32s_ints]
  exact h2
theorem R_bytesV {w : World} {e base : Nat} {ok : Nat → Prop} {v : Value} {X : List UInt8} (h : Kd.R (Kd.int .u8) e w base ok v (ofB X)) : RV w v X.length 1 (bs X) := by
  have h2 := RV_own (Kd.own_of_R h)
  rw [ofB_length] at h2
  rw [bs_ofB]
  exact h2
/-- How the document comes to a sum: the message m of n blocks, the words X i behind i of them. -/
structure RefRun (M m : List UInt8) (n : Nat) (X : Nat → List Nat) : Prop where
  msg : ∃ K, incipitref01_Message.f K (ofB M) = some (ofB m)
  len : m.length = 64 * n
  start : X 0 = IV
  step : ∀ i, i < n → ∃ K, incipitref01_Block.f K (ints (X i)) (ofB ((m.drop (64 * i)).take 64)) = some (ints (X (i + 1)))
  eight : ∀ i, i ≤ n → Eight (X i)
theorem all_calls (lv : Value) (l : List (List UInt8)) (w : World) (hlv : RBs w lv l) (hl : l.flatten.length ≤ 140737488355328) :
    Calls Try.prog 14 #[lv] w fun e w' => ∃ v', e = .returned v' ∧ w'.ownsRow w.heap.size 5 1 v' l.flatten.length (bs l.flatten) ∧ Below w.heap.size w w' := by
  obtain ⟨vs, hvs, hel⟩ := hlv
  obtain ⟨A, c, rfl⟩ := hvs.slice
  have hmax := hvs.max
  have hmono : ∀ k, (l.take k).flatten.length ≤ l.flatten.length := fun k => by
    have e : l.flatten = (l.take k).flatten ++ (l.drop k).flatten := by rw [← List.flatten_append, List.take_append_drop]
    rw [e, List.length_append]; omega
  have AM := hid hmono
  clear hmono
  go_enter Try.func14, Try.ntmps14
  go_wp2_with fail
  go_loopw [3, 4] (fun v i wr => ∃ k : Nat, k ≤ l.length ∧ i = .int .i64 k ∧ wr.ownsRow w.heap.size 5 1 v (l.take k).flatten.length (bs (l.take k).flatten) ∧ Below w.heap.size w wr) (fun _ i _ => l.length - (intOf i).toNat)
  case atStart => exact ⟨0, Nat.zero_le _, rfl, World.ownsRow_nil _ _ _ _, Below.refl _ _⟩
  case round =>
    obtain ⟨k, hk, rfl, hown, hb⟩ := hrel
    by_cases hlt : k < l.length
    · obtain ⟨b, o, u, rfl, hu, hcell, hbw⟩ := hvs.at_ k hlt
      have hux := hel k u l[k] hu (List.getElem?_eq_getElem hlt)
      have hcell2 : wr.cell? ⟨b, o + k, none⟩ = some u := (hb.cell hbw).trans hcell
      have hsucc := flatten_succ l k hlt
      obtain ⟨x, HX⟩ := hidden l[k]
      rw [HX.out] at hux hsucc
      obtain ⟨A', c', rfl⟩ := hux.slice
      have hxm := hux.max
      have h1 := AM.out (k + 1)
      rw [hsucc] at h1
      have HS := hid hsucc
      clear hsucc hcell
      simp only [List.length_append] at h1
      go_wp2_with (at_builtin; refine wpList_append_rv (.tmp 11) (.tmp 15) 28 w.heap.size 5 (.int .u8 0) 1 1 Try.underlying28 info_u8 hown (hux.below hb) (bs_one x) (by omega) hb.size rfl rfl rfl rfl rfl (by decide) (by decide) ?_; intro v3 w3 ho3 hb3 _)
      go_roundw
      case rel =>
        refine ⟨k + 1, by omega, by go_num, own_len ho3 ?_ ?_, hb.trans hb3⟩
        · rw [show (l.take (k + 1)).flatten = (l.take k).flatten ++ x from HS.out, List.length_append]
        · rw [show (l.take (k + 1)).flatten = (l.take k).flatten ++ x from HS.out, bs_append]
      case measure => simp [intOf]; omega
    · have hkl : k = l.length := by omega
      subst hkl
      rw [List.take_length] at hown
      go_wp2_with fail
      go_ret
      exact ⟨_, rfl, hown, hb⟩
theorem be4_at (X : List Nat) (j : Nat) (hj : j < 4 * X.length) : (X.flatMap be4)[j]? = some (UInt8.ofNat (X.getD (j / 4) 0 / 2 ^ (24 - 8 * (j % 4)))) := by
  have hk : j / 4 < X.length := by omega
  have hb : (be4 X[j / 4])[j % 4]? = some (UInt8.ofNat (X[j / 4] / 2 ^ (24 - 8 * (j % 4)))) := by
    have h4 : j % 4 = 0 ∨ j % 4 = 1 ∨ j % 4 = 2 ∨ j % 4 = 3 := by omega
    rcases h4 with h | h | h | h <;> rw [h] <;> rfl
  have h := flat_at be4 4 X (fun _ _ => rfl) (j / 4) hk (j % 4) _ hb
  rw [show j / 4 * 4 + j % 4 = j by omega] at h
  rw [h, List.getD, List.getElem?_eq_getElem hk]
  rfl
def rowJ (X : List Nat) (j : Nat) : List UInt8 := (X.flatMap be4).take j ++ List.replicate (32 - j) 0
theorem rowJ_length (X : List Nat) (hX : X.length = 8) (j : Nat) (hj : j ≤ 32) : (rowJ X j).length = 32 := by
  unfold rowJ
  rw [List.length_append, List.length_take, flat4_length, hX, List.length_replicate]; omega
theorem rowJ_step (X : List Nat) (hX : X.length = 8) (j : Nat) (hj : j < 32) : rowJ X (j + 1) = (rowJ X j).set j (UInt8.ofNat (X.getD (j / 4) 0 / 2 ^ (24 - 8 * (j % 4)))) := by
  have hl : ((X.flatMap be4).take j).length = j := by rw [List.length_take, flat4_length, hX]; omega
  unfold rowJ
  rw [List.set_append_right _ _ (by omega), hl, Nat.sub_self, show 32 - j = (32 - (j + 1)) + 1 by omega, List.replicate_succ, List.set_cons_zero]
  rw [List.take_add_one, be4_at X j (by omega), List.append_assoc]
  rfl
/-- The answer as it is put down, a byte at a time. -/
def KJ (w W : World) (gs : Nat) (X : List Nat) (j : Nat) : Prop := W.heap[gs]? = some (.cells (bs (rowJ X j)).toArray 26 (0, 0)) ∧ W.heap[w.heap.size]? = some (.cells z32 26 (0, 0)) ∧ Below w.heap.size w W ∧ w.heap.size < gs ∧ X.length = 8
theorem KJ.below {w W W' : World} {gs : Nat} {X : List Nat} {j : Nat} (h : KJ w W gs X j) (hb : Below W.heap.size W W') : KJ w W' gs X j := ⟨blk_below h.1 hb, blk_below h.2.1 hb, h.2.2.1.trans (hb.mono h.2.2.1.size), h.2.2.2.1, h.2.2.2.2⟩
theorem KJ.drew {w W : World} {gs : Nat} {X : List Nat} {j : Nat} (h : KJ w W gs X j) : KJ w W.drew gs X j := h.below (Below.refl _ _).drew
theorem KJ.spare {w W : World} {gs : Nat} {X : List Nat} {j : Nat} (h : KJ w W gs X j) (hj : j < 32) : W.cell? ⟨gs, j, none⟩ = some (.int .u8 0) := by
  rw [blk_cell h.1, List.getElem?_toArray, bs_at _ j (by rw [rowJ_length X h.2.2.2.2 j (by omega)]; exact hj)]
  have hl : ((X.flatMap be4).take j).length = j := by rw [List.length_take, flat4_length, h.2.2.2.2]; omega
  congr 3
  unfold rowJ
  rw [List.getElem_append_right (by omega)]
  simp
theorem KJ.put {w W : World} {gs : Nat} {X : List Nat} {j y : Nat} (h : KJ w W gs X j) (hj : j < 32) (hy : X.getD (j / 4) 0 = y) : KJ w (W.setCell ⟨gs, j, none⟩ (.int .u8 ((y / 2 ^ (24 - 8 * (j % 4)) % 256 : Nat) : Int))) gs X (j + 1) := by
  obtain ⟨h1, h2, h3, h4, h5⟩ := h
  refine ⟨blk_put h1 j _ ?_, blk_far h2 (by show w.heap.size ≠ gs; omega) _, h3.setCell (by show w.heap.size ≤ gs; omega) _, h4, h5⟩
  rw [rowJ_step X h5 j hj, List.setIfInBounds_toArray]
  unfold bs
  rw [List.map_set, hy]
  congr 3

set_option maxHeartbeats 800000 in
set_option maxRecDepth 100000 in
theorem refSum_calls (lv : Value) (l : List (List UInt8)) (m : List UInt8) (n : Nat) (X : Nat → List Nat) (w : World) (hlv : RBs w lv l) (hl : l.flatten.length ≤ 140737488355328) (hn : n ≤ 1000000000) (hrun : RefRun l.flatten m n X) :
    Calls Try.prog 15 #[lv] w fun e w' => e = .returned (.agg (bs ((X n).flatMap be4)).toArray) ∧ Below w.heap.size w w' := by
  obtain ⟨⟨K0, hmsg⟩, hml, hst, hstep, h8⟩ := hrun
  obtain ⟨F, hF⟩ : ∃ F, l.flatten = F := ⟨_, rfl⟩
  rw [hF] at hmsg
  have AHF := Aside0.mk hF
  have AHL := Aside0.mk hl
  clear hF hl
  have hIV : u32s IV = [.int .u32 1779033703, .int .u32 3144134277, .int .u32 1013904242, .int .u32 2773480762, .int .u32 1359893119, .int .u32 2600822924, .int .u32 528734635, .int .u32 1541459225] := rfl
  have hr0 : (w.alloc (.cells #[.int .u8 0, .int .u8 0, .int .u8 0, .int .u8 0, .int .u8 0, .int .u8 0, .int .u8 0, .int .u8 0, .int .u8 0, .int .u8 0, .int .u8 0, .int .u8 0, .int .u8 0, .int .u8 0, .int .u8 0, .int .u8 0, .int .u8 0, .int .u8 0, .int .u8 0, .int .u8 0, .int .u8 0, .int .u8 0, .int .u8 0, .int .u8 0, .int .u8 0, .int .u8 0, .int .u8 0, .int .u8 0, .int .u8 0, .int .u8 0, .int .u8 0, .int .u8 0] 26)).heap[w.heap.size]? = some (.cells z32 26 (0, 0)) := heap_alloc_new w _
  have hb0 := (Below.refl w.heap.size w).alloc (Nat.le_refl _) (.cells #[.int .u8 0, .int .u8 0, .int .u8 0, .int .u8 0, .int .u8 0, .int .u8 0, .int .u8 0, .int .u8 0, .int .u8 0, .int .u8 0, .int .u8 0, .int .u8 0, .int .u8 0, .int .u8 0, .int .u8 0, .int .u8 0, .int .u8 0, .int .u8 0, .int .u8 0, .int .u8 0, .int .u8 0, .int .u8 0, .int .u8 0, .int .u8 0, .int .u8 0, .int .u8 0, .int .u8 0, .int .u8 0, .int .u8 0, .int .u8 0, .int .u8 0, .int .u8 0] 26)
  have hr1 := blk_alloc hr0 (.cells #[.int .u32 1779033703, .int .u32 3144134277, .int .u32 1013904242, .int .u32 2773480762, .int .u32 1359893119, .int .u32 2600822924, .int .u32 528734635, .int .u32 1541459225] 34)
  have hb1 := hb0.alloc hb0.size (.cells #[.int .u32 1779033703, .int .u32 3144134277, .int .u32 1013904242, .int .u32 2773480762, .int .u32 1359893119, .int .u32 2600822924, .int .u32 528734635, .int .u32 1541459225] 34)
  have hx1 : RV ((w.alloc (.cells #[.int .u8 0, .int .u8 0, .int .u8 0, .int .u8 0, .int .u8 0, .int .u8 0, .int .u8 0, .int .u8 0, .int .u8 0, .int .u8 0, .int .u8 0, .int .u8 0, .int .u8 0, .int .u8 0, .int .u8 0, .int .u8 0, .int .u8 0, .int .u8 0, .int .u8 0, .int .u8 0, .int .u8 0, .int .u8 0, .int .u8 0, .int .u8 0, .int .u8 0, .int .u8 0, .int .u8 0, .int .u8 0, .int .u8 0, .int .u8 0, .int .u8 0, .int .u8 0] 26)).alloc (.cells #[.int .u32 1779033703, .int .u32 3144134277, .int .u32 1013904242, .int .u32 2773480762, .int .u32 1359893119, .int .u32 2600822924, .int .u32 528734635, .int .u32 1541459225] 34)) (.slice (some ⟨w.heap.size + 1, 0, none⟩) 8 8) 8 1 (u32s IV) := by
    have h := RV_new (w.alloc (.cells #[.int .u8 0, .int .u8 0, .int .u8 0, .int .u8 0, .int .u8 0, .int .u8 0, .int .u8 0, .int .u8 0, .int .u8 0, .int .u8 0, .int .u8 0, .int .u8 0, .int .u8 0, .int .u8 0, .int .u8 0, .int .u8 0, .int .u8 0, .int .u8 0, .int .u8 0, .int .u8 0, .int .u8 0, .int .u8 0, .int .u8 0, .int .u8 0, .int .u8 0, .int .u8 0, .int .u8 0, .int .u8 0, .int .u8 0, .int .u8 0, .int .u8 0, .int .u8 0] 26)) [.int .u32 1779033703, .int .u32 3144134277, .int .u32 1013904242, .int .u32 2773480762, .int .u32 1359893119, .int .u32 2600822924, .int .u32 528734635, .int .u32 1541459225] 34 8 1 (0, 0) rfl (by decide)
    rw [show (w.alloc (.cells #[.int .u8 0, .int .u8 0, .int .u8 0, .int .u8 0, .int .u8 0, .int .u8 0, .int .u8 0, .int .u8 0, .int .u8 0, .int .u8 0, .int .u8 0, .int .u8 0, .int .u8 0, .int .u8 0, .int .u8 0, .int .u8 0, .int .u8 0, .int .u8 0, .int .u8 0, .int .u8 0, .int .u8 0, .int .u8 0, .int .u8 0, .int .u8 0, .int .u8 0, .int .u8 0, .int .u8 0, .int .u8 0, .int .u8 0, .int .u8 0, .int .u8 0, .int .u8 0] 26)).heap.size = w.heap.size + 1 by simp] at h
    rw [hIV]
    exact h
  have hlv1 := (hlv.below hb0).below ((Below.refl _ _).alloc (Nat.le_refl _) (.cells #[.int .u32 1779033703, .int .u32 3144134277, .int .u32 1013904242, .int .u32 2773480762, .int .u32 1359893119, .int .u32 2600822924, .int .u32 528734635, .int .u32 1541459225] 34))
  clear hIV
  have AL := Aside0.mk hlv1
  have AR := Aside0.mk hr1
  have AB := Aside0.mk hb1
  have AX := Aside0.mk hx1
  have AM := Aside0.mk hmsg
  have ASt := Aside0.mk hst
  have ASp := Aside0.mk hstep
  have A8 := Aside0.mk h8
  clear hr0 hb0 hr1 hb1 hx1 hlv hlv1 hmsg hst hstep h8
  go_enter Try.func15, Try.ntmps15
  go_wp2_with (first
    | (go_at_call 14; refine (all_calls _ l _ AL.out AHL.out).mono ?_; rintro e w2 ⟨v2, rfl, ho2, hb2⟩; rw [AHF.out] at ho2; obtain ⟨A2, c2, rfl⟩ := (RV_own ho2).slice; have hc2 := bytes_C (RV_own ho2); have AC2 := Aside0.mk hc2; have hfl : F.length = (ofB F).length := (ofB_length F).symm; rw [hfl]; clear hfl; have AB2 := Aside0.mk hb2; clear ho2 hb2 hc2)
    | (go_at_call 26; refine (incipitref01_Message.calls K0 A2 c2 (ofB F) _ _ AC2.out.1 AC2.out.2.1 AM.out).mono ?_; rintro e w3 ⟨v3, rfl, hr3, hb3⟩; have hm3 := R_bytesV hr3; rw [hml] at hm3; obtain ⟨A3, c3, rfl⟩ := hm3.slice; have AM3 := Aside0.mk hm3; have AB3 := Aside0.mk hb3; clear hm3 hr3 hb3))
  have hw3 : Below w.heap.size w w3 := (AB.out.trans (AB2.out.mono AB.out.size)).trans (AB3.out.mono (AB.out.trans (AB2.out.mono AB.out.size)).size)
  have hr3 := blk_below (blk_below AR.out AB2.out) AB3.out
  have hx3 := (AX.out.below AB2.out).below AB3.out
  rw [← ASt.out] at hx3
  have hm3 := AM3.out
  clear AL AR AB AX AM AC2 AB2 AM3 AB3 ASt
  go_loopw [3, 5] (fun v i wr => ∃ k : Nat, k ≤ n ∧ i = .int .i64 ((64 * k : Nat) : Int) ∧ RV wr v 8 1 (u32s (X k)) ∧ wr.heap[w.heap.size]? = some (.cells z32 26 (0, 0)) ∧ Below w.heap.size w wr ∧ RV wr (.slice A3 (64 * n) c3) (64 * n) 1 (bs m)) (fun _ i _ => 64 * n - (intOf i).toNat)
  case atStart => exact ⟨0, Nat.zero_le _, rfl, hx3, hr3, hw3, hm3⟩
  case round =>
    clear hx3 hr3 hw3 hm3
    obtain ⟨k, hk, rfl, hx, hr, hw, hm⟩ := hrel
    obtain ⟨Ax, cx, rfl⟩ := hx.slice
    by_cases hlt : k < n
    · obtain ⟨mb, mo, rfl⟩ : ∃ b o, A3 = some ⟨b, o, none⟩ := by
        rcases hm.parts (by decide) with ⟨h1, _⟩ | ⟨_, b', o', c', e, _⟩
        · omega
        · rw [Value.slice.injEq] at e; exact ⟨b', o', e.1⟩
      have hcn : 64 * n ≤ c3 := by obtain ⟨_, A', c', e, h1, _⟩ := hm; rw [Value.slice.injEq] at e; rw [e.2.2]; exact h1
      have hblk := RV.head (RV.tail hm (64 * k) (by omega)) 64 (by omega)
      have hCb := bytes_C hblk
      have hCx := words_C hx
      obtain ⟨Kb, hKb⟩ := ASp.out k hlt
      have h8k := Eight.len (A8.out (k + 1) (by omega))
      have ACb := Aside0.mk hCb
      have ACx := Aside0.mk hCx
      have AKb := Aside0.mk hKb
      have AH := Aside0.mk (And.intro hr (And.intro hw hm))
      have A88 := Aside0.mk h8k
      have e1 : ((64 * k : Nat) : Int) + 64 = ((64 * k + 64 : Nat) : Int) := by omega
      have bw : -9000000000000 ≤ 64 * (k : Int) + 64 ∧ 64 * (k : Int) + 64 ≤ 9000000000000 := by omega
      have e3 : (0 : Int) ≤ 64 * (k : Int) := by omega
      have e4 : 64 * (k : Int) ≤ 64 * (k : Int) + 64 := by omega
      have e5 : 64 * (k : Int) + 64 ≤ (c3 : Int) := by omega
      have e6 : (64 * (k : Int)).toNat = 64 * k := by omega
      have e7 : (64 * (k : Int) + 64).toNat = 64 * k + 64 := by omega
      have e8 : ¬ (c3 = 64 * k) := by omega
      have e9 : 64 * k + 64 - 64 * k = 64 := by omega
      have e10 : 64 * (k : Int) < 64 * (n : Int) := by omega
      have e2 := wrap64_idB _ bw.1 bw.2
      clear bw
      clear hx hr hw hm hblk hCb hCx hKb h8k e1
      have hC := incipitref01_Block.calls Kb Ax cx (ints (X k)) (some ⟨mb, mo + 64 * k, none⟩) (c3 - 64 * k) (ofB ((m.drop (64 * k)).take 64)) _ wr ACx.out.1 ACx.out.2.1 ACb.out.1 ACb.out.2.1 AKb.out
      rw [ACx.out.2.2, ACb.out.2.2] at hC
      have AC := Aside0.mk hC
      clear hC
      go_wp2_with (go_at_call 27; refine (AC.out).mono ?_; rintro e w5 ⟨v5, rfl, hr5, hb5⟩)
      have hx5 := R_words hr5
      rw [A88.out] at hx5
      have hb5m := AH.out.2.1.trans (hb5.mono AH.out.2.1.size)
      have hr5m := blk_below AH.out.1 hb5
      have hm5 := AH.out.2.2.below hb5
      clear AC ACb ACx AKb AH A88 hr5 hb5 e2
      go_roundw
      case rel => exact ⟨k + 1, by omega, by go_num, hx5, hr5m, hb5m, hm5⟩
      case measure => simp [intOf]; omega
    · have hkn : k = n := by omega
      subst hkn
      have h8n := A8.out k (Nat.le_refl _)
      have hXl := Eight.len h8n
      obtain ⟨xb, xo, rfl⟩ : ∃ b o, Ax = some ⟨b, o, none⟩ := by
        rcases hx.parts (by decide) with ⟨h1, _⟩ | ⟨_, b', o', c', e, _⟩
        · omega
        · rw [Value.slice.injEq] at e; exact ⟨b', o', e.1⟩
      have hxc : 8 ≤ cx := by obtain ⟨_, A', c', e, h1, _⟩ := hx; rw [Value.slice.injEq] at e; rw [e.2.2]; exact h1
      have hxcell : ∀ q, q < 8 → wr.cell? ⟨xb, xo + q, none⟩ = some (.int .u32 (((X k).getD q 0 : Nat) : Int)) := fun q hq => by
        obtain ⟨b', o', u, e, hu, hc, _⟩ := hx.at_ q hq
        rw [Option.some.injEq, Addr.mk.injEq] at e
        obtain ⟨rfl, rfl, -⟩ := e
        have := u32s_at (X k) [] q (by omega)
        rw [List.append_nil, List.getElem?_toArray, hu] at this
        rw [hc]; exact this
      obtain ⟨Y, hY⟩ : ∃ Y, X k = Y := ⟨_, rfl⟩
      rw [hY] at h8n hXl hxcell
      have AY := Aside0.mk hY
      have AXC := Aside0.mk hxcell
      have hbW := (Below.refl wr.heap.size wr).alloc (Nat.le_refl _) (.cells z32 26)
      have hK0 : KJ w (wr.alloc (.cells z32 26)) wr.heap.size Y 0 := ⟨by rw [heap_alloc_new]; unfold rowJ z32; simp, blk_alloc hr _, hw.alloc hw.size _, blk_lt hr, hXl⟩
      have hxcell2 : ∀ q, q < 8 → (wr.alloc (.cells z32 26)).cell? ⟨xb, xo + q, none⟩ = some (.int .u32 ((Y.getD q 0 : Nat) : Int)) := fun q hq => cell_below (AXC.out q hq) hbW
      have AX2 := Aside0.mk hxcell2
      have AK := Aside0.mk hK0
      have A8n := Aside0.mk h8n
      clear hx hr hw hm hY hxcell hbW hK0 hxcell2 h8n hXl ASp A8
      have g1 : ¬ (64 * (k : Int) < 64 * (k : Int)) := by omega
      go_wp2_with fail
      have hK1 := AK.out
      have hX1 := AX2.out
      obtain ⟨gs, hgs⟩ : ∃ x, wr.heap.size = x := ⟨_, rfl⟩
      have hxb : xb ≠ wr.heap.size := Nat.ne_of_lt (World.block_lt_of_cell? _ _ (AXC.out 0 (by decide)))
      rw [hgs] at hK1 hxb ⊢
      clear AK AX2 AXC hgs
      go_loopw [7] (fun i wz => ∃ j : Nat, j ≤ 32 ∧ i = .int .i64 (j : Int) ∧ KJ w wz gs Y j ∧ ∀ q, q < 8 → wz.cell? ⟨xb, xo + q, none⟩ = some (.int .u32 ((Y.getD q 0 : Nat) : Int))) (fun i _ => 32 - (intOf i).toNat)
      case atStart => exact ⟨0, Nat.zero_le _, rfl, hK1, hX1⟩
      case round =>
        clear hK1 hX1
        obtain ⟨j, hj, rfl, hK, hXc⟩ := hrel
        by_cases hlt : j < 32
        · obtain ⟨y, hy⟩ : ∃ y, Y.getD (j / 4) 0 = y := ⟨_, rfl⟩
          have hylt : y < 4294967296 := by
            rw [← hy]
            obtain ⟨x0, x1, x2, x3, x4, x5, x6, x7, rfl, l0, l1, l2, l3, l4, l5, l6, l7⟩ := A8n.out
            have h4 : j / 4 = 0 ∨ j / 4 = 1 ∨ j / 4 = 2 ∨ j / 4 = 3 ∨ j / 4 = 4 ∨ j / 4 = 5 ∨ j / 4 = 6 ∨ j / 4 = 7 := by omega
            rcases h4 with h | h | h | h | h | h | h | h <;> rw [h] <;> assumption
          have x12 := hXc (j / 4) (by omega)
          rw [hy] at x12
          obtain ⟨P, hP⟩ : ∃ P : Nat, 2 ^ (24 - 8 * (j % 4)) = P := ⟨_, rfl⟩
          have hP0 : 0 < P := by rw [← hP]; exact Nat.pow_pos (by decide)
          have hPn : ¬ ((P : Int) = 0) := by omega
          have hPm : ¬ (P = 0) := by omega
          have hPd : decide ((P : Int) = 0) = false := decide_eq_false hPn
          have hpow : ∀ W : World, Calls Try.prog 28 #[.int .i64 ((24 : Int) - (j : Int) % 4 * 8)] W fun e w' => e = .returned (.int .u32 (P : Int)) ∧ Below W.heap.size W w' := fun W => by
            have h := power_some (24 - 8 * (j % 4)) (by omega)
            rw [hP] at h
            rw [show (24 : Int) - (j : Int) % 4 * 8 = ((24 - 8 * (j % 4) : Nat) : Int) by omega]
            exact (incipitref01_power.calls 40 _ _ W h).mono fun e w' h => ⟨h.1, h.2.below⟩
          have AHP := Aside0.mk hP
          have j0 : (0 : Int) ≤ (j : Int) := by omega
          have j1 : (j : Int) < 32 := by omega
          have t1 : (j : Int).tmod 4 = (j : Int) % 4 := Int.tmod_eq_emod_of_nonneg (by omega)
          have t4 : (j : Int).tdiv 4 = (j : Int) / 4 := Int.tdiv_eq_ediv_of_nonneg (by omega)
          have t5 : (0 : Int) ≤ (j : Int) / 4 := by omega
          have t6 : (j : Int) / 4 < 8 := by omega
          have t7 : ((j : Int) / 4).toNat = j / 4 := by omega
          have t8 : (y : Int).tdiv (P : Int) = (y : Int) / (P : Int) := Int.tdiv_eq_ediv_of_nonneg (by omega)
          have hnn : (0 : Int) ≤ (y : Int) / (P : Int) := Int.ediv_nonneg (by omega) (by omega)
          have hle : (y : Int) / (P : Int) ≤ (y : Int) := Int.ediv_le_self _ (by omega)
          have t12 : IntKind.u32.wrap ((y : Int) / (P : Int)) = (y : Int) / (P : Int) := u32_id _ hnn (by omega)
          have t13 : IntKind.u32.wrap ((y : Int) / (P : Int) % 256) = (y : Int) / (P : Int) % 256 := u32_id _ (Int.emod_nonneg _ (by decide)) (Int.lt_trans (Int.emod_lt_of_pos _ (by decide)) (by decide))
          clear hle
          have t9 : ((y : Int) / (P : Int)).tmod 256 = (y : Int) / (P : Int) % 256 := Int.tmod_eq_emod_of_nonneg hnn
          have t10 : IntKind.u8.wrap ((y : Int) / (P : Int) % 256) = (y : Int) / (P : Int) % 256 := u8_id _ (Int.emod_nonneg _ (by decide)) (Int.emod_lt_of_pos _ (by decide))
          have hput := fun W (h : KJ w W gs Y j) => h.put hlt hy
          have hval : (((y / 2 ^ (24 - 8 * (j % 4)) % 256 : Nat) : Nat) : Int) = (y : Int) / (P : Int) % 256 := by rw [AHP.out]; simp
          rw [hval] at hput
          have b1 : -1000000000 ≤ (j : Int) % 4 * 8 ∧ (j : Int) % 4 * 8 ≤ 1000000000 := by omega
          have b2 : -1000000000 ≤ 24 - (j : Int) % 4 * 8 ∧ 24 - (j : Int) % 4 * 8 ≤ 1000000000 := by omega
          have b3 : -1000000000 ≤ (j : Int) / 4 ∧ (j : Int) / 4 ≤ 1000000000 := by omega
          have t2 := wrap64_id _ b1.1 b1.2
          have t3 := wrap64_id _ b2.1 b2.2
          have t11 := wrap64_id _ b3.1 b3.2
          clear b1 b2 b3
          have hpow2 : ∀ W : World, Calls Try.prog 28 #[.int .i64 (wrap64 ((24 : Int) - (j : Int) % 4 * 8))] W fun e w' => e = .returned (.int .u32 (P : Int)) ∧ Below W.heap.size W w' := fun W => by rw [t3]; exact hpow W
          have AP := Aside0.mk hpow2
          clear hpow2
          have APut := Aside0.mk hput
          have AXc := Aside0.mk hXc
          have K12 := hK.drew
          clear hpow hput hXc hval hP hP0 hy hylt hnn hK
          go_wp2_with fail
          refine start_ (n := 16) (S := fun w' => w'.cell? ⟨xb, xo + j / 4, none⟩ = some (.int .u32 (y : Int))) (ds := [15]) #[false, false, false, false, false, false, false, false, false, false, false, false, false, false, false, false] (by kernel_rfl) rfl rfl (x12) (fun hHeld => ?_)
          have x12 : wr.drew.cell? ⟨xb, xo + j / 4, none⟩ = some (.int .u32 (y : Int)) := x12
          have AX12 := Aside0.mk (p := ∀ q, q < 8 → wr.drew.cell? ⟨xb, xo + q, none⟩ = some (.int .u32 ((Y.getD q 0 : Nat) : Int))) AXc.out
          generalize wr.drew = w12 at x12 K12 AX12 hHeld ⊢
          refine pure_ (i := 0) (N := some 29) (v := ?_) (a' := ?_) #[true, false, false, false, false, false, false, false, false, false, false, false, false, false, false, false] rfl rfl (by kernel_rfl) (fun _ _ _ h => h) (Or.inl ⟨by rfl, ?_⟩) ?_ ?_
          rotate_left
          · intro w'
            go_simp
            with_reducible rfl
          rotate_left
          · simp only [Act.put, List.setIfInBounds_toArray, List.set_cons_zero, List.set_cons_succ, i64_w, i32_w]
            rfl
          refine pure_ (i := 1) (N := some 30) (v := ?_) (a' := ?_) #[true, true, false, false, false, false, false, false, false, false, false, false, false, false, false, false] rfl rfl (by kernel_rfl) (fun _ _ _ h => h) (Or.inl ⟨by rfl, ?_⟩) ?_ ?_
          rotate_left
          · intro w'
            go_simp
            with_reducible rfl
          rotate_left
          · simp only [Act.put, List.setIfInBounds_toArray, List.set_cons_zero, List.set_cons_succ, i64_w, i32_w]
            rfl
          refine pure_ (i := 2) (N := some 31) (v := ?_) (a' := ?_) #[true, true, true, false, false, false, false, false, false, false, false, false, false, false, false, false] rfl rfl (by kernel_rfl) (fun _ _ _ h => h) (Or.inl ⟨by rfl, ?_⟩) ?_ ?_
          rotate_left
          · intro w'
            go_simp
            with_reducible rfl
          rotate_left
          · simp only [Act.put, List.setIfInBounds_toArray, List.set_cons_zero, List.set_cons_succ, i64_w, i32_w]
            rfl
          refine pure_ (i := 3) (N := some 32) (v := ?_) (a' := ?_) #[true, true, true, true, false, false, false, false, false, false, false, false, false, false, false, false] rfl rfl (by kernel_rfl) (fun _ _ _ h => h) (Or.inl ⟨by rfl, ?_⟩) ?_ ?_
          rotate_left
          · intro w'
            go_simp
            with_reducible rfl
          rotate_left
          · simp only [Act.put, List.setIfInBounds_toArray, List.set_cons_zero, List.set_cons_succ, i64_w, i32_w]
            rfl
          refine pure_ (i := 4) (N := some 33) (v := ?_) (a' := ?_) #[true, true, true, true, true, false, false, false, false, false, false, false, false, false, false, false] rfl rfl (by kernel_rfl) (fun _ _ _ h => h) (Or.inl ⟨by rfl, ?_⟩) ?_ ?_
          rotate_left
          · intro w'
            go_simp
            with_reducible rfl
          rotate_left
          · simp only [Act.put, List.setIfInBounds_toArray, List.set_cons_zero, List.set_cons_succ, i64_w, i32_w]
            rfl
          refine pure_ (i := 6) (N := some 35) (v := ?_) (a' := ?_) #[true, true, true, true, true, false, true, false, false, false, false, false, false, false, false, false] rfl rfl (by kernel_rfl) (fun _ _ _ h => h) (Or.inl ⟨by rfl, ?_⟩) ?_ ?_
          rotate_left
          · intro w'
            go_simp
            with_reducible rfl
          rotate_left
          · simp only [Act.put, List.setIfInBounds_toArray, List.set_cons_zero, List.set_cons_succ, i64_w, i32_w]
            rfl
          refine pure_ (i := 7) (N := some 36) (v := ?_) (a' := ?_) #[true, true, true, true, true, false, true, true, false, false, false, false, false, false, false, false] rfl rfl (by kernel_rfl) (fun _ _ _ h => h) (Or.inl ⟨by rfl, ?_⟩) ?_ ?_
          rotate_left
          · intro w'
            go_simp
            with_reducible rfl
          rotate_left
          · simp only [Act.put, List.setIfInBounds_toArray, List.set_cons_zero, List.set_cons_succ, i64_w, i32_w]
            rfl
          refine pure_ (i := 8) (N := some 37) (v := ?_) (a' := ?_) #[true, true, true, true, true, false, true, true, true, false, false, false, false, false, false, false] rfl rfl (by kernel_rfl) (fun _ _ _ h => h) (Or.inl ⟨by rfl, ?_⟩) ?_ ?_
          rotate_left
          · intro w'
            go_simp
            with_reducible rfl
          rotate_left
          · simp only [Act.put, List.setIfInBounds_toArray, List.set_cons_zero, List.set_cons_succ, i64_w, i32_w]
            rfl
          refine pure_ (i := 9) (N := some 38) (v := ?_) (a' := ?_) #[true, true, true, true, true, false, true, true, true, true, false, false, false, false, false, false] rfl rfl (by kernel_rfl) (fun _ _ _ h => h) (Or.inl ⟨by rfl, ?_⟩) ?_ ?_
          rotate_left
          · intro w'
            go_simp
            with_reducible rfl
          rotate_left
          · simp only [Act.put, List.setIfInBounds_toArray, List.set_cons_zero, List.set_cons_succ, i64_w, i32_w]
            rfl
          refine take_ (i := 5) (N := some 34) (v := ?_) (a' := ?_) #[true, true, true, true, true, true, true, true, true, true, false, false, false, false, false, false] rfl rfl (by kernel_rfl) (fun _ _ _ h => h) (Or.inl ⟨by rfl, ?_⟩) hHeld ?_ ?_
          rotate_left
          · intro w' s0
            go_simp
            with_reducible rfl
          rotate_left
          · simp only [Act.put, List.setIfInBounds_toArray, List.set_cons_zero, List.set_cons_succ, i64_w, i32_w]
            rfl
          refine one_ (i := 10) (N := some 39) #[true, true, true, true, true, true, true, true, true, true, true, false, false, false, false, false] rfl rfl (by kernel_rfl) (by decide) (fun K hK => ?_)
          refine goes_ Try.func28 (by kernel_rfl) rfl #[.int .i64 (wrap64 ((24 : Int) - (j : Int) % 4 * 8))] (by rfl) rfl rfl (by simp only [List.map_toArray, List.map_cons, List.map_nil]; rfl) ?_
          with_reducible refine (AP.out w12).mono ?_
          rintro e w13 ⟨rfl, hd13⟩
          refine ⟨_, rfl, ?_⟩
          have x13 := cell_below x12 hd13
          have K13 := K12.below hd13
          have z13 := K13.spare hlt
          have f13 := blk_frozen K13.1 j
          refine hK.out _ _ (x13) (fun hHeld => ?_)
          clear hK K
          refine norm_ (a' := ?_) ?_ ?_
          rotate_left
          · show Act.put _ (some 39) _ = _
            simp only [Act.put, List.setIfInBounds_toArray, List.set_cons_zero, List.set_cons_succ, i64_w, i32_w]
            rfl
          refine pure_ (i := 11) (N := some 40) (v := ?_) (a' := ?_) #[true, true, true, true, true, true, true, true, true, true, true, true, false, false, false, false] rfl rfl (by kernel_rfl) (fun _ _ _ h => h) (Or.inl ⟨by rfl, ?_⟩) ?_ ?_
          rotate_left
          · intro w'
            go_simp
            with_reducible rfl
          rotate_left
          · simp only [Act.put, List.setIfInBounds_toArray, List.set_cons_zero, List.set_cons_succ, i64_w, i32_w]
            rfl
          refine pure_ (i := 12) (N := some 41) (v := ?_) (a' := ?_) #[true, true, true, true, true, true, true, true, true, true, true, true, true, false, false, false] rfl rfl (by kernel_rfl) (fun _ _ _ h => h) (Or.inl ⟨by rfl, ?_⟩) ?_ ?_
          rotate_left
          · intro w'
            go_simp
            with_reducible rfl
          rotate_left
          · simp only [Act.put, List.setIfInBounds_toArray, List.set_cons_zero, List.set_cons_succ, i64_w, i32_w]
            rfl
          refine pure_ (i := 13) (N := some 42) (v := ?_) (a' := ?_) #[true, true, true, true, true, true, true, true, true, true, true, true, true, true, false, false] rfl rfl (by kernel_rfl) (fun _ _ _ h => h) (Or.inl ⟨by rfl, ?_⟩) ?_ ?_
          rotate_left
          · intro w'
            go_simp
            with_reducible rfl
          rotate_left
          · simp only [Act.put, List.setIfInBounds_toArray, List.set_cons_zero, List.set_cons_succ, i64_w, i32_w]
            rfl
          refine pure_ (i := 14) (N := some 43) (v := ?_) (a' := ?_) #[true, true, true, true, true, true, true, true, true, true, true, true, true, true, true, false] rfl rfl (by kernel_rfl) (fun _ _ _ h => h) (Or.inl ⟨by rfl, ?_⟩) ?_ ?_
          rotate_left
          · intro w'
            go_simp
            with_reducible rfl
          rotate_left
          · simp only [Act.put, List.setIfInBounds_toArray, List.set_cons_zero, List.set_cons_succ, i64_w, i32_w]
            rfl
          refine last_ (i := 15) (N := none) #[true, true, true, true, true, true, true, true, true, true, true, true, true, true, true, true] rfl rfl (by kernel_rfl) (by decide) (fun K hK => ?_)
          refine skip_ (w1 := ?_) (by rfl) rfl ?_ ?_
          rotate_left
          · go_simp
            rfl
          refine hK.out _ _ ?_
          clear hK K
          refine done_ (by kernel_rfl) ?_
          clear t2 t3 t11 x12 x13 z13 f13 hHeld
          have hput := APut.out _ K13
          have hX13 : ∀ q, q < 8 → w13.cell? ⟨xb, xo + q, none⟩ = some (.int .u32 ((Y.getD q 0 : Nat) : Int)) := fun q hq => cell_below (AX12.out q hq) hd13
          clear APut AP AXc AX12 K12 K13 hd13
          go_wp2_with fail
          go_roundw
          case rel =>
            refine ⟨j + 1, by omega, by go_num, hput, fun q hq => ?_⟩
            refine Eq.trans ?_ (hX13 q hq)
            exact World.cell?_of_block (w := w13) (Below.heap_setCell w13 _ _ xb hxb)
          case measure => simp [intOf]; omega
        · have hj32 : j = 32 := by omega
          subst hj32
          have hYl := hK.2.2.2.2
          have hrow : bs (rowJ Y 32) = bs (Y.flatMap be4) := by unfold rowJ; rw [List.take_of_length_le (by rw [flat4_length, hYl]; exact Nat.le_refl _)]; simp
          have hg := hK.1
          have hr := hK.2.1
          have hb := hK.2.2.1
          rw [hrow] at hg
          have hol : (bs (Y.flatMap be4)).length = 32 := by rw [bs_length, flat4_length, hYl]
          have hs32 : (Try.prog.info? 26).map (·.size) = some (bs (Y.flatMap be4)).length := by rw [hol]; exact size32
          have hs32a : (Try.prog.info? 26).map (·.size) = some (bs (Y.flatMap be4)).toArray.size := by rw [List.size_toArray]; exact hs32
          have hza : z32.size = (bs (Y.flatMap be4)).toArray.size := by show 32 = _; rw [List.size_toArray, hol]
          have hone : (bs (Y.flatMap be4)).toArray.all (·.oneCell') = true := all_oneCell_toArray (bs_one _)
          have hrd : ∀ q u, (bs (Y.flatMap be4))[q]? = some u → wr.cell? ⟨gs, 0 + q, none⟩ = some u := fun q u hq => by rw [blk_cell hg (0 + q), Nat.zero_add, List.getElem?_toArray]; exact hq
          have hfin := setRow_heap wr w.heap.size z32 (bs (Y.flatMap be4)).toArray _ _ hr
          have AF := Aside0.mk hfin
          have ABB := Aside0.mk hb
          clear hfin hb hg hK hol hrow hXc
          generalize hD : bs (Y.flatMap be4) = D at hs32 hs32a hza hone hrd AF
          have AD := Aside0.mk hD
          clear hD
          go_wp2_with (first | (refine wpList_load_at 26 (.tmp 6) gs 0 D _ hrd Try.underlying26 rfl hs32 rfl rfl rfl ?_) | (refine wpList_store_row rfl 26 (.tmp 2) (.tmp 44) rfl w.heap.size D.toArray rfl rfl 26 _ hr hs32a hza hone ?_))
          refine bodyPost_ret (v := .agg D.toArray) (results_cell_row (p := 2) (ty := 26) rfl _ _ w.heap.size 26 D.toArray (0, 0) _ rfl AF.out Try.underlying26 rfl hs32a) rfl ?_
          rw [AY.out, AD.out]
          exact ⟨rfl, ABB.out.trans ⟨rfl, rfl, rfl, by simp, fun i hi => setRow_other _ _ _ _ (by omega)⟩⟩

end Go.Proofs.Ythhandkckbnafaa
