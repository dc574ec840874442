/-
  The walks of the law's own helpers: copied, much; the document's Sum is the digest.
-/
import Derived.Test.YthhandkckbnafaaShaPlainB
import Derived.Test.YthhandkckbnafaaShaBackH
set_option linter.unusedVariables false
set_option linter.unusedSimpArgs false
namespace Go.Proofs.Ythhandkckbnafaa
open Go.RowKit Go.Proofs.YthhandkckbnafaaZ.ZA Go.Proofs.YthhandkckbnafaaW.PrintWords Go.Proofs.YthhandkckbnafaaW.PrintLast Go.Proofs.YthhandkckbnafaaW.PrintMore
theorem refSum_digest (lv : Value) (l : List (List UInt8)) (w : World) (hlv : RBs w lv l) (hl : l.flatten.length ≤ 1000000000) :
    Calls Try.prog 15 #[lv] w fun e w' => e = .returned (.agg (bs (digest l.flatten)).toArray) ∧ Below w.heap.size w w' := by
  have hp := padM_length l.flatten
  exact refSum_calls lv l (padM l.flatten) ((padM l.flatten).length / 64) (hN (padM l.flatten)) w hlv (by omega) (by rw [hp]; unfold padN; omega) (ref_run l.flatten (by omega))
/-- What 'much' leaves of its twenty thousand. -/
def leftB (l : List (List UInt8)) (k : Nat) : Int := 20000 - ((l.take k).flatten.length : Int)
theorem leftB_step (l : List (List UInt8)) (k : Nat) (hk : k < l.length) : leftB l (k + 1) = leftB l k - ((l[k]).length : Int) := by
  unfold leftB
  rw [flatten_succ l k hk, List.length_append]
  omega
def MuchPost (l : List (List UInt8)) (w : World) (e : Ending) (w' : World) : Prop := ∃ b : Bool, e = .returned (.bool b) ∧ w' = w ∧ (b = false → l.length ≤ 300 ∧ l.flatten.length ≤ 20000)
theorem MuchPost.yes {l : List (List UInt8)} {w : World} {e : Ending} (h : e = .returned (.bool true)) : MuchPost l w e w := ⟨true, h, rfl, fun h => by cases h⟩
theorem MuchPost.no {l : List (List UInt8)} {w : World} {e : Ending} (h : e = .returned (.bool false)) (h1 : l.length ≤ 300) (h2 : l.flatten.length ≤ 20000) : MuchPost l w e w := ⟨false, h, rfl, fun _ => ⟨h1, h2⟩⟩
theorem much_calls (lv : Value) (l : List (List UInt8)) (w : World) (hlv : RBs w lv l) :
    Calls Try.prog 10 #[lv] w (MuchPost l w) := by
  obtain ⟨vs, hvs, hel⟩ := hlv
  obtain ⟨A, c, rfl⟩ := hvs.slice
  have hmax := hvs.max
  go_enter Try.func10, Try.ntmps10
  go_wp2_with fail
  have hle : ∀ k, leftB l k ≤ 20000 := fun k => by unfold leftB; omega
  have ALE := Aside0.mk hle
  clear hle
  go_loopw [3, 4] (fun v i wr => ∃ k : Nat, k ≤ l.length ∧ i = .int .i64 (k : Int) ∧ v = .int .i64 (leftB l k) ∧ -9223372036854775807 ≤ leftB l k ∧ w = wr) (fun _ i _ => l.length - (intOf i).toNat)
  case atStart => exact ⟨0, Nat.zero_le _, rfl, by simp [leftB], by simp [leftB], rfl⟩
  case round =>
    obtain ⟨k, hk, rfl, rfl, hlo, rfl⟩ := hrel
    by_cases hlt : k < l.length
    · by_cases h0 : 0 ≤ leftB l k
      · obtain ⟨b, o, u, rfl, hu, hcell, hbw⟩ := hvs.at_ k hlt
        have hux := hel k u l[k] hu (List.getElem?_eq_getElem hlt)
        have hst := leftB_step l k hlt
        obtain ⟨x, HX⟩ := hidden l[k]
        rw [HX.out] at hux hst
        obtain ⟨A', c', rfl⟩ := hux.slice
        have hxm := hux.max
        have h2 := ALE.out k
        obtain ⟨L, hL⟩ : ∃ L, leftB l k = L := ⟨_, rfl⟩
        rw [hL] at hlo h0 hst h2 ⊢
        have hb1 : -9223372036854775807 ≤ L - (x.length : Int) := by omega
        have hw : wrap64 (L - (x.length : Int)) = L - (x.length : Int) := by unfold wrap64; omega
        have AST := Aside0.mk hst
        clear hst hL
        go_wp2_with fail
        clear hw
        go_roundw
        case rel => exact ⟨k + 1, by omega, by go_num, by rw [AST.out], by rw [AST.out]; exact hb1, trivial⟩
        case measure => simp [intOf]; omega
      · obtain ⟨L, hL⟩ : ∃ L, leftB l k = L := ⟨_, rfl⟩
        rw [hL] at hlo h0 ⊢
        have hneg : L < 0 := by omega
        have h0' : ¬ (L ≥ 0) := by omega
        by_cases h300 : (300 : Int) < (l.length : Int)
        · go_wp2_with fail
          go_ret
          exact MuchPost.yes rfl
        · go_wp2_with fail
          go_ret
          exact MuchPost.yes rfl
    · have hkl : k = l.length := by omega
      subst hkl
      have hfl : leftB l l.length = 20000 - (l.flatten.length : Int) := by unfold leftB; rw [List.take_length]
      have AFL := Aside0.mk hfl
      clear hfl
      obtain ⟨L, hL⟩ : ∃ L, leftB l l.length = L := ⟨_, rfl⟩
      rw [hL] at hlo AFL ⊢
      clear hL
      by_cases h0 : L < 0
      · skip
        by_cases h300 : (300 : Int) < (l.length : Int)
        · go_wp2_with fail
          go_ret
          exact MuchPost.yes rfl
        · go_wp2_with fail
          go_ret
          exact MuchPost.yes rfl
      · skip
        by_cases h300 : (300 : Int) < (l.length : Int)
        · go_wp2_with fail
          go_ret
          exact MuchPost.yes rfl
        · go_wp2_with fail
          go_ret
          exact MuchPost.no rfl (by omega) (by have := AFL.out; omega)

theorem copied_calls (lv : Value) (l : List (List UInt8)) (w : World) (hlv : RBs w lv l) (hn : l.length ≤ 300) (hl : l.flatten.length ≤ 20000) :
    Calls Try.prog 12 #[lv] w fun e w' => ∃ v', e = .returned v' ∧ RBs w' v' l ∧ Below w.heap.size w w' := by
  obtain ⟨vs, hvs, hel⟩ := hlv
  obtain ⟨A, c, rfl⟩ := hvs.slice
  have hmax := hvs.max
  have hmono : ∀ k (hk : k < l.length), (l[k]).length ≤ 20000 := fun k hk => by
    have h1 := flatten_succ l k hk
    have h2 : l.flatten = (l.take (k + 1)).flatten ++ (l.drop (k + 1)).flatten := by rw [← List.flatten_append, List.take_append_drop]
    have h3 := congrArg List.length h2
    rw [h1, List.length_append, List.length_append] at h3
    omega
  have AM := Aside0.mk hmono
  have AHL := Aside0.mk hl
  clear hmono hl
  go_enter Try.func12, Try.ntmps12
  go_wp2_with fail
  go_loopw [3, 4] (fun v i wr => ∃ k : Nat, k ≤ l.length ∧ i = .int .i64 k ∧ (∃ us : List Value, us.length = k ∧ (∀ u ∈ us, u.oneCell' = true) ∧ wr.ownsRow w.heap.size 28 1 v k us ∧ ∀ (q : Nat) (u : Value) (x : List UInt8), us[q]? = some u → l[q]? = some x → wr.ownsRow w.heap.size 5 1 u x.length (bs x)) ∧ Below w.heap.size w wr) (fun _ i _ => l.length - (intOf i).toNat)
  case atStart => exact ⟨0, Nat.zero_le _, rfl, ⟨[], rfl, by simp, World.ownsRow_nil _ _ _ _, by simp⟩, Below.refl _ _⟩
  case round =>
    obtain ⟨k, hk, rfl, ⟨us, hul, hu1, hown, hus⟩, hb⟩ := hrel
    by_cases hlt : k < l.length
    · obtain ⟨b, o, u, rfl, hu, hcell, hbw⟩ := hvs.at_ k hlt
      have hux := hel k u l[k] hu (List.getElem?_eq_getElem hlt)
      have hcell2 : wr.cell? ⟨b, o + k, none⟩ = some u := (hb.cell hbw).trans hcell
      have hxl := AM.out k hlt
      have hlk : l[k]? = some l[k] := List.getElem?_eq_getElem hlt
      obtain ⟨x, HX⟩ := hidden l[k]
      rw [HX.out] at hux hxl hlk
      obtain ⟨A', c', rfl⟩ := hux.slice
      have hxm := hux.max
      have hO := World.ownsRow_made (base := wr.heap.size) (e := 5) (size := 1) wr #[] 0 (Nat.le_refl _) (by decide) rfl
      have hr := (hux.below hb).alloc (.cells #[] 5)
      have hcell3 := cell_below hcell2 ((Below.refl wr.heap.size wr).alloc (Nat.le_refl _) (.cells #[] 5))
      have AU := Aside0.mk hus
      have AU1 := Aside0.mk hu1
      have AOW := Aside0.mk hown
      have ALK := Aside0.mk hlk
      clear hus hu1 hown hlk hcell
      go_wp2_with (first
        | (at_builtin; refine wpList_append_rv (.tmp 12) (.tmp 16) 28 wr.heap.size 5 (.int .u8 0) 1 1 Try.underlying28 info_u8 hO hr (bs_one x) (by omega) (by simp) rfl rfl rfl rfl rfl (by decide) (by decide) ?_; intro v3 w3 ho3 hb3 _; have hbw3 : Below wr.heap.size wr w3 := ((Below.refl _ _).alloc (Nat.le_refl _) _).trans hb3; obtain ⟨A3, c3, rfl⟩ := (RV_own ho3).slice; have hown3 := own_below AOW.out hbw3; have hbb3 := hb.trans (hbw3.mono hb.size))
        | (at_builtin; refine wpList_append_rv (.tmp 11) (.tmp 18) 22 w.heap.size 28 (.slice none 0 0) 1 24 Try.underlying22 info_sl (hown3.alloc (.cells #[.slice A3 x.length c3] 28)) (RV_new w3 [.slice A3 x.length c3] 28 1 1 (0, 0) rfl (by decide)) (by intro u hu; simp at hu; subst hu; rfl) (by omega) (by simp; have := hbb3.size; omega) rfl rfl rfl rfl rfl (by decide) (by decide) ?_; intro v4 w4 ho4 hb4 hg4))
      have hownA := hown3.alloc (.cells #[.slice A3 x.length c3] 28)
      have hbA : Below w3.heap.size w3 (w3.alloc (.cells #[.slice A3 x.length c3] 28)) := (Below.refl _ _).alloc (Nat.le_refl _) _
      have hkeep : ∀ (u : Value) (y : List UInt8), w3.ownsRow w.heap.size 5 1 u y.length (bs y) → w4.ownsRow w.heap.size 5 1 u y.length (bs y) := fun u y ho => by
        have h1 := own_below ho hbA
        exact own_other h1 hg4 (own_type_ne h1 hownA (by decide))
      have hnew : w4.ownsRow w.heap.size 5 1 (.slice A3 x.length c3) x.length (bs x) := by
        have h := hkeep _ x (own_len (Go.Proofs.Ythhandkckbnafaa.own_base ho3 hb.size) (by simp) (by simp))
        rw [Nat.zero_add] at h
        exact h
      have hold : ∀ (q : Nat) (u : Value) (y : List UInt8), us[q]? = some u → l[q]? = some y → w4.ownsRow w.heap.size 5 1 u y.length (bs y) := fun q u y h1 h2 => hkeep u y (own_below (AU.out q u y h1 h2) hbw3)
      have hb44 : Below w.heap.size w w4 := (hbb3.trans (hbA.mono hbb3.size)).trans hb4
      go_roundw
      case rel =>
        refine ⟨k + 1, by omega, by go_num, ⟨us ++ [.slice A3 x.length c3], by simp [hul], ?_, ho4, ?_⟩, hb44⟩
        · intro u hu
          rcases List.mem_append.1 hu with h | h
          · exact AU1.out u h
          · simp at h; subst h; rfl
        · intro q u y h1 h2
          rcases Nat.lt_or_ge q k with hq | hq
          · rw [List.getElem?_append_left (by omega)] at h1
            exact hold q u y h1 h2
          · rw [List.getElem?_append_right (by omega), hul] at h1
            have hqk : q = k := by
              have := (List.getElem?_eq_some_iff.1 h1).1
              simp at this
              omega
            subst hqk
            rw [Nat.sub_self] at h1
            obtain rfl := Option.some.inj h1
            rw [ALK.out] at h2
            obtain rfl := Option.some.inj h2
            exact hnew
      case measure => simp [intOf]; omega
    · have hkl : k = l.length := by omega
      subst hkl
      go_wp2_with fail
      go_ret
      exact ⟨_, rfl, ⟨us, RV_own hown, fun q u x h1 h2 => RV_own (hus q u x h1 h2)⟩, hb⟩
end Go.Proofs.Ythhandkckbnafaa
