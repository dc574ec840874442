/-
  ShaParts: the walk of the law: however bytes are parted, their sum is one.
-/
import Derived.Test.YthhandkckbnafaaShaWr
import Derived.Test.YthhandkckbnafaaShaAwake
import Derived.Test.YthhandkckbnafaaShaBackH
import Derived.Test.YthhandkckbnafaaShaEq
set_option linter.unusedVariables false
set_option linter.unusedSimpArgs false
namespace Go.Proofs.Ythhandkckbnafaa
open Go.RowKit Go.Proofs.YthhandkckbnafaaZ.ZA Go.Proofs.YthhandkckbnafaaW.PrintWords Go.Proofs.YthhandkckbnafaaW.PrintLast Go.Proofs.YthhandkckbnafaaW.PrintMore
theorem own_apart {w : World} {base : Nat} {e e' : TypeId} {size n : Nat} {v : Value} {xs : List Value} (h : w.ownsRow base e size v n xs) {g : Nat} {cs : Array Value} {f : Nat × Nat} (hg : w.heap[g]? = some (.cells cs e' f)) (he : e ≠ e') : v.ownBlock ≠ some g := by
  rcases h.2 with ⟨rfl, _⟩ | ⟨b, cap, cur, rfl, _, hb, _⟩
  · intro h; cases h
  · intro h
    have h' : b = g := Option.some.inj h
    subst h'
    rw [hg] at hb
    have := Option.some.inj hb
    injection this with _ h2 _
    exact he h2.symm
theorem own_past {w w' : World} {base : Nat} {e : TypeId} {size n : Nat} {v : Value} {xs : List Value} (h : w.ownsRow base e size v n xs) {q : Option Nat} (hg : w.grownBy w' q) (hq : v.ownBlock = none ∨ v.ownBlock ≠ q) : w'.ownsRow base e size v n xs := by
  refine ⟨h.1, ?_⟩
  rcases h.2 with h2 | ⟨b, cap, cur, rfl, h3, hb, h4⟩
  · exact .inl h2
  · refine .inr ⟨b, cap, cur, rfl, h3, ?_, h4⟩
    have hlt : b < w.heap.size := by
      rcases Nat.lt_or_ge b w.heap.size with h | h
      · exact h
      · rw [Array.getElem?_eq_none h] at hb; cases hb
    have hne : some b ≠ q := by
      rcases hq with hq | hq
      · cases hq
      · exact hq
    rw [hg.block b hlt hne]
    exact hb
theorem own_lt {w : World} {base : Nat} {e : TypeId} {size n : Nat} {v : Value} {xs : List Value} (h : w.ownsRow base e size v n xs) {r : Nat} (hr : w.heap.size ≤ r) : v.ownBlock ≠ some r := by
  rcases h.2 with ⟨rfl, _⟩ | ⟨b, cap, cur, rfl, _, hb, _⟩
  · intro h; cases h
  · intro h
    have h' : b = r := Option.some.inj h
    subst h'
    rw [Array.getElem?_eq_none hr] at hb; cases hb
theorem u16_wf {n : Int} (h : (Lit.int .u16 n).wf = true) : 0 ≤ n ∧ n < 65536 := by
  simp [Lit.wf] at h
  have h0 : IntKind.u16.min = 0 := by decide
  have h1 : IntKind.u16.max = 65535 := by decide
  omega
theorem rbs_p (w : World) (v : Value) (x : List UInt8) (hv : RV w v x.length 1 (bs x)) (e : TypeId) : RBs (w.alloc (.cells #[v] e)) (.slice (some ⟨w.heap.size, 0, none⟩) 1 1) [x] := by
  refine ⟨[v], RV_new w [v] e 1 1 (0, 0) rfl (by decide), fun i u y hu hy => ?_⟩
  match i with
  | 0 => simp at hu hy; subst hu; subst hy; exact hv.alloc _
  | i + 1 => simp at hu
/-- Any bytes, cut. -/
theorem RV.upto {w : World} {A : Option Addr} {n c : Nat} {xs : List UInt8} (h : RV w (.slice A n c) n 1 (bs xs)) (k : Nat) (hk : k ≤ n) : RV w (.slice A k c) k 1 (bs (xs.take k)) := by
  obtain ⟨hl, A', c', e, h1, h2, h3⟩ := h
  rw [Value.slice.injEq] at e
  obtain ⟨rfl, -, rfl⟩ := e
  have hxl : xs.length = n := by rw [bs_length] at hl; omega
  refine ⟨by rw [bs_length, List.length_take, hxl]; omega, _, _, rfl, by omega, by omega, fun hx => ?_⟩
  obtain ⟨b, o, e, hc⟩ := h3 (fun e0 => hx (by rw [bs_take, e0, List.take_nil]))
  refine ⟨b, o, e, fun j u hj => hc j u ?_⟩
  rw [bs_take, List.getElem?_take] at hj
  split at hj
  · exact hj
  · cases hj
theorem RV.from_ {w : World} {A : Option Addr} {n c : Nat} {xs : List UInt8} (h : RV w (.slice A n c) n 1 (bs xs)) (k : Nat) (hk : k ≤ n) : RV w (.slice (if c = k then A else A.map (·.add k)) (n - k) (c - k)) (n - k) 1 (bs (xs.drop k)) := by
  obtain ⟨hl, A', c', e, h1, h2, h3⟩ := h
  rw [Value.slice.injEq] at e
  obtain ⟨rfl, -, rfl⟩ := e
  have hxl : xs.length = n := by rw [bs_length] at hl; omega
  refine ⟨by rw [bs_length, List.length_drop, hxl]; omega, _, _, rfl, by omega, by omega, fun hx => ?_⟩
  have hkn : k < n := by
    rcases Nat.lt_or_ge k n with h | h
    · exact h
    · exact absurd (by rw [List.drop_eq_nil_of_le (by omega)]; rfl) hx
  obtain ⟨b, o, rfl, hc⟩ := h3 (fun e0 => hx (by rw [bs_drop, e0, List.drop_nil]))
  rw [if_neg (by omega)]
  refine ⟨b, o + k, by rw [Option.map_some, add_plain], fun j u hj => ?_⟩
  rw [bs_drop, List.getElem?_drop] at hj
  have := hc _ u hj
  rwa [← Nat.add_assoc] at this
/-- The parts that there are: each reads its bytes. -/
def Pts (w : World) (vs : List Value) (l : List (List UInt8)) : Prop := ∀ (i : Nat) (u : Value) (y : List UInt8), vs[i]? = some u → l[i]? = some y → RV w u y.length 1 (bs y)
theorem Pts.more {w : World} {vs : List Value} {l : List (List UInt8)} (h : Pts w vs l) (hl : vs.length = l.length) {v : Value} {x : List UInt8} (hv : RV w v x.length 1 (bs x)) : Pts w (vs ++ [v]) (l ++ [x]) := by
  intro i u y hu hy
  by_cases hi : i < vs.length
  · rw [List.getElem?_append_left hi] at hu
    rw [List.getElem?_append_left (by omega)] at hy
    exact h i u y hu hy
  · have hie : i = vs.length := by
      have := (List.getElem?_eq_some_iff.1 hu).1
      rw [List.length_append, List.length_singleton] at this
      omega
    subst hie
    rw [List.getElem?_append_right (Nat.le_refl _), Nat.sub_self] at hu
    rw [List.getElem?_append_right (by omega), hl, Nat.sub_self] at hy
    simp at hu hy
    subst hu hy
    exact hv
theorem Pts.one {w : World} {vs : List Value} {l : List (List UInt8)} (h : Pts w vs l) (hl : vs.length = l.length) : ∀ u ∈ vs, u.oneCell' = true := fun u hu => by
  obtain ⟨i, hi⟩ := List.mem_iff_getElem?.1 hu
  have hil : i < l.length := by have := (List.getElem?_eq_some_iff.1 hi).1; omega
  obtain ⟨A', c', rfl⟩ := (h i u l[i] hi (List.getElem?_eq_getElem hil)).slice
  rfl
set_option maxHeartbeats 4000000 in
set_option maxRecDepth 100000 in
theorem shaParts_walk (lv cv : Value) (a : List UInt8) (cs : List Int) (w : World) (hb : RV w lv a.length 1 (bs a)) (hc : RV w cv cs.length 1 (ns .u16 cs)) (hcw : ∀ n ∈ cs, (Lit.int .u16 n).wf = true) :
    Calls Try.prog 7 #[lv, cv] w fun e w' => e = .returned (.bool true) ∧ Below w.heap.size w w' := by
  obtain ⟨A0, c0, rfl⟩ := hb.slice
  obtain ⟨A1, c1, rfl⟩ := hc.slice
  obtain ⟨L, hL⟩ : ∃ L, a.length = L := ⟨_, rfl⟩
  obtain ⟨N, hN⟩ : ∃ N, cs.length = N := ⟨_, rfl⟩
  rw [hL] at hb ⊢
  rw [hN] at hc ⊢
  obtain ⟨BD, hBD⟩ : ∃ B, bs (digest a) = B := ⟨_, rfl⟩
  have hBl : BD.length = 32 := by rw [← hBD, bs_length, digest_length]
  have hBo : ∀ u ∈ BD, u.oneCell' = true := by rw [← hBD]; exact bs_one _
  have eDD := fun w => arr_eq 9998 (digest a) (digest a) (digest_length _) (digest_length _) w
  rw [beq_self_eq_true, hBD] at eDD
  have hg32 := guard32
  have hs1 : L ≤ 20000 → ∀ (W : World) (v : Value), RBs W v [a] → Calls Try.prog 13 #[v] W fun e w' => e = .returned (.agg BD.toArray) ∧ Below W.heap.size W w' := fun h1 W v hv => by
    have h := sum_calls v [a] W hv (by simp; omega) (by simp)
    rw [show ([a] : List (List UInt8)).flatten = a by simp, hBD] at h
    exact h
  have hs2 : L ≤ 20000 → ∀ (W : World) (v : Value) (l : List (List UInt8)), RBs W v l → l.flatten = a → l.length ≤ 1000 → Calls Try.prog 13 #[v] W fun e w' => e = .returned (.agg BD.toArray) ∧ Below W.heap.size W w' := fun h1 W v l hv hl h2 => by
    have h := sum_calls v l W hv (by rw [hl]; omega) (by omega)
    rw [hl, hBD] at h
    exact h
  have hs3 : L ≤ 20000 → ∀ (W : World) (g : Nat), HS W W g a (a.length / 64) → Calls Try.prog 19 #[.pointer (some ⟨g, 0, none⟩)] W fun e w' => e = .returned (.agg BD.toArray) ∧ Below W.heap.size W w' := fun h1 W g hr => by
    have h := hsum_calls g a W hr (by omega)
    rw [hBD] at h
    exact h
  have hs4 : L ≤ 20000 → ∀ (W : World) (g : Nat), HS W W g a (a.length / 64) → Calls Try.prog 21 #[.pointer (some ⟨g, 0, none⟩)] W fun e w' => e = .returned (.int .u64 (L : Int)) ∧ Below W.heap.size W w' := fun h1 W g hr => by
    have h := len_calls g a _ W hr (by omega)
    rw [hL] at h
    exact h
  have B1 := Aside0.mk hs1
  have B2 := Aside0.mk hs2
  have B3 := Aside0.mk hs3
  have B4 := Aside0.mk hs4
  have ABl := Aside0.mk hBl
  have ABo := Aside0.mk hBo
  have ABs := Aside0.mk (p := (Try.prog.info? 26).map (·.size) = some BD.length) (by rw [hBl]; exact size32)
  clear hs1 hs2 hs3 hs4 hBD hBl hBo
  have hLm := hb.max
  have hNm := hc.max
  have ABb := Aside0.mk hb
  have ACc := Aside0.mk hc
  have AL := Aside0.mk hL
  have AN := Aside0.mk hN
  have ACW := Aside0.mk hcw
  clear hb hc hL hN hcw
  go_enter Try.func7, Try.ntmps7
  by_cases hg : (20000 : Int) < (L : Int)
  · go_wp2_with (go_at_call 11; refine (awake_calls _).mono ?_; rintro e w8 ⟨rfl, hb8⟩)
    go_ret
    exact ⟨rfl, hb8⟩
  by_cases hg2 : (300 : Int) < (N : Int)
  · go_wp2_with (go_at_call 11; refine (awake_calls _).mono ?_; rintro e w8 ⟨rfl, hb8⟩)
    go_ret
    exact ⟨rfl, hb8⟩
  have hL2 : L ≤ 20000 := by omega
  have hN2 : N ≤ 300 := by omega
  go_wp2_with (go_at_call 17; refine (new_calls _).mono ?_; rintro e w1 ⟨rfl, hN1, hb1⟩)
  replace B1 := Aside0.mk (B1.out hL2)
  replace B2 := Aside0.mk (B2.out hL2)
  replace B3 := Aside0.mk (B3.out hL2)
  replace B4 := Aside0.mk (B4.out hL2)
  clear hg hg2
  have hH1 : HSP (fun r => Value.ownBlock (.slice none 0 0) ≠ some r) w1 w1 w.heap.size (a.take 0) (0 / 64) := HSP.nil hN1
  have ABg := Aside0.mk hb1
  have AH1 := Aside0.mk hH1
  clear hN1 hb1 hH1
  go_loopw [5, 6, 8] (fun pv rv i wr => ∃ k j : Nat, k ≤ N ∧ j ≤ L ∧ i = .int .i64 (k : Int) ∧ (∃ Ar cr, rv = .slice Ar (L - j) cr ∧ RV w (.slice Ar (L - j) cr) (L - j) 1 (bs (a.drop j))) ∧ (∃ vs l, wr.ownsRow w.heap.size 28 1 pv k vs ∧ vs.length = l.length ∧ l.length = k ∧ l.flatten = a.take j ∧ Pts w vs l) ∧ HSP (fun r => pv.ownBlock ≠ some r) wr wr w.heap.size (a.take j) (j / 64) ∧ Below w.heap.size w wr) (fun _ _ i _ => N - (intOf i).toNat)
  case atStart => exact ⟨0, 0, Nat.zero_le _, Nat.zero_le _, rfl, ⟨A0, c0, rfl, ABb.out⟩, ⟨[], [], World.ownsRow_nil _ _ _ _, rfl, rfl, rfl, fun i u y hu _ => by simp at hu⟩, AH1.out, ABg.out⟩
  case round =>
    clear AH1 ABg
    obtain ⟨k, j, hk, hj, rfl, ⟨Ar, cr, rfl, hR⟩, ⟨vs, l, hown, hvl, hlk, hfl, hP⟩, hH, hB⟩ := hrel
    by_cases hlt : k < N
    · obtain ⟨x, hx⟩ : ∃ x, cs[k]? = some x := ⟨_, List.getElem?_eq_getElem (by rw [AN.out]; exact hlt)⟩
      have hxw := ACW.out x (List.mem_of_getElem? hx)
      obtain ⟨hx0, hx1⟩ := u16_wf hxw
      obtain ⟨bc, oc, uc, hA1, hu, hcell⟩ := RV.at_ (ACc.out.below hB) k hlt
      have huc : uc = .int .u16 x := by
        unfold ns at hu
        rw [List.getElem?_map, hx] at hu
        exact (Option.some.inj hu).symm
      subst huc
      subst hA1
      obtain ⟨n, hn⟩ : ∃ n : Nat, min x ((L - j : Nat) : Int) = (n : Int) := ⟨(min x ((L - j : Nat) : Int)).toNat, by omega⟩
      have hnL : n ≤ L - j := by omega
      have hcap : L - j ≤ cr := by obtain ⟨_, A', c', e, h1, _⟩ := hR; rw [Value.slice.injEq] at e; rw [e.2.2]; exact h1
      have kn1 : (n : Int) ≤ (cr : Int) := by omega
      have kn2 : (n : Int) ≤ ((L - j : Nat) : Int) := by omega
      have hRt := RV.upto hR n hnL
      obtain ⟨y, hy⟩ : ∃ y, (a.drop j).take n = y := ⟨_, rfl⟩
      have hyl : y.length = n := by rw [← hy, List.length_take, List.length_drop, AL.out]; omega
      rw [hy] at hRt
      have hRy : RV w (.slice Ar n cr) y.length 1 (bs y) := by rw [hyl]; exact hRt
      have hone := Pts.one hP (by rw [hvl])
      have hPm := Pts.more hP hvl hRy
      have hmore : a.take j ++ y = a.take (j + n) := by rw [← hy, ← List.take_add]
      have hfl1 : a.take j ++ [y].flatten = a.take (j + n) := by simpa using hmore
      have hlen : (a.take j ++ [y].flatten).length ≤ 70368744177664 := by
        rw [hfl1, List.length_take]
        have := AL.out
        omega
      have hRest := RV.from_ hR n hnL
      rw [List.drop_drop] at hRest
      obtain ⟨Ap, cp, rfl⟩ := (RV_own hown).slice
      have hpg : Value.ownBlock (.slice Ap k cp) ≠ some w.heap.size := by obtain ⟨cs, hcs⟩ := hH.block; exact own_apart hown hcs (by decide)
      have AH := Aside0.mk hH
      have AO := Aside0.mk hown
      have AR := Aside0.mk hRest
      have AB := Aside0.mk hB
      have AP := Aside0.mk hPm
      have ARy := Aside0.mk hRy
      have APG := Aside0.mk hpg
      have AM := Aside0.mk hfl1
      have ALN := Aside0.mk hlen
      have AYL := Aside0.mk hyl
      have AF := Aside0.mk hfl
      clear hH hown hR hB hP hu hx hxw hRt hy hyl hRy hone hPm hmore hfl1 hlen hRest hpg hfl
      go_wp2_with (first
        | (at_builtin; refine wpList_append_rv (.tmp 38) (.tmp 42) 22 w.heap.size 28 (.slice none 0 0) 1 24 Try.underlying22 info_sl (AO.out.alloc (.cells #[.slice Ar n cr] 28)) (RV_new wr [.slice Ar n cr] 28 1 1 (0, 0) rfl (by decide)) (by intro u hu; simp at hu; subst hu; rfl) (by omega) (by simp; have := AB.out.size; omega) rfl rfl rfl rfl rfl (by decide) (by decide) ?_; intro v2 w2 ho2 hb2 hg2; obtain ⟨A2, c2, rfl⟩ := (RV_own ho2).slice; have hal : Below wr.heap.size wr (wr.alloc (.cells #[.slice Ar n cr] 28)) := (Below.refl _ _).alloc (Nat.le_refl _) _; have hB2 := (AB.out.trans (hal.mono AB.out.size)).trans hb2; have hH2 := HSP.apart (HSP.now (HSP.below AH.out hal)) hg2 APG.out (fun r h => h); clear hg2 hb2 hal; have hal2 : Below w2.heap.size w2 (w2.alloc (.cells #[.slice Ar n cr] 28)) := (Below.refl _ _).alloc (Nat.le_refl _) _; have hH3 := HSP.now (HSP.below hH2 hal2); have hRB := rbs_p w2 (.slice Ar n cr) y (RV.below ARy.out hB2) 28; have AH3 := Aside0.mk hH3; have ARB := Aside0.mk hRB; have AO2 := Aside0.mk (World.ownsRow.alloc ho2 (.cells #[.slice Ar n cr] 28)); have AB2 := Aside0.mk (hB2.trans (hal2.mono hB2.size)); clear hH2 hH3 hRB ho2 hB2 hal2)
        | (go_at_call 18; refine (write_at w.heap.size _ (a.take j) (j / 64) [y] _ AH3.out.hs ARB.out ALN.out (by simp)).mono ?_; rintro e w5 ⟨rfl, hS5⟩; rw [AM.out] at hS5; have hg5 := HSP.grown hS5))
      have hj2 : (a.take (j + n)).length / 64 = (j + n) / 64 := by
        rw [List.length_take]
        have := AL.out
        rw [Nat.min_eq_left (by omega)]
      have hH5 := HSP.mono (Q := fun r => Value.ownBlock (.slice A2 (k + 1) c2) ≠ some r) (HSP.now hS5) (fun r hr => own_lt AO2.out hr)
      rw [hj2] at hH5
      have hO5 := own_past AO2.out hg5 (.inr (by obtain ⟨cs2, hcs2⟩ := AH3.out.block; exact own_apart AO2.out hcs2 (by decide)))
      have hB5 : Below w.heap.size w w5 := AB2.out.grown hg5 AB2.out.size (fun q e => by rw [Option.some.injEq] at e; omega)
      have hsub : L - j - n = L - (j + n) := by omega
      clear hS5 hg5 hj2
      rw [hsub] at AR
      rw [hsub]
      go_roundw
      case rel => exact ⟨k + 1, j + n, by omega, by omega, by go_num, ⟨_, _, rfl, AR.out⟩, ⟨_, _, hO5, by simp [hvl], by simp [hlk], by rw [List.flatten_append, AF.out, AM.out], AP.out⟩, hH5, hB5⟩
      case measure => simp [intOf]; omega
    · have hkN : N = k := by omega
      subst hkN
      obtain ⟨Ap, cp, rfl⟩ := (RV_own hown).slice
      obtain ⟨y, hy⟩ : ∃ y, a.drop j = y := ⟨_, rfl⟩
      have hyl : y.length = L - j := by rw [← hy, List.length_drop, AL.out]
      obtain ⟨m, hm⟩ : ∃ m, L - j = m := ⟨_, rfl⟩
      rw [hy] at hR
      rw [hm] at hR hyl ⊢
      have hRy : RV w (.slice Ar m cr) y.length 1 (bs y) := by rw [hyl]; exact hR
      have hone := Pts.one hP (by rw [hvl])
      have hPm := Pts.more hP hvl hRy
      have hfl1 : a.take j ++ [y].flatten = a := by rw [← hy]; simp
      have hfl2 : (l ++ [y]).flatten = a := by rw [List.flatten_append, hfl, hfl1]
      have hlen : (a.take j ++ [y].flatten).length ≤ 70368744177664 := by rw [hfl1]; have := AL.out; omega
      have hll : (l ++ [y]).length = N + 1 := by simp [hlk]
      have hpg : Value.ownBlock (.slice Ap N cp) ≠ some w.heap.size := by obtain ⟨cs, hcs⟩ := hH.block; exact own_apart hown hcs (by decide)
      have AH := Aside0.mk hH
      have AO := Aside0.mk hown
      have AB := Aside0.mk hB
      have AP := Aside0.mk hPm
      have ARy := Aside0.mk hRy
      have APG := Aside0.mk hpg
      have AM := Aside0.mk hfl1
      have ALN := Aside0.mk hlen
      have AF2 := Aside0.mk hfl2
      have ALL := Aside0.mk hll
      clear hH hown hR hB hP hy hRy hone hPm hfl1 hfl2 hlen hpg hfl hll hm hyl
      go_wp2_with (first
        | (at_builtin; refine wpList_append_rv (.tmp 53) (.tmp 55) 22 w.heap.size 28 (.slice none 0 0) 1 24 Try.underlying22 info_sl (AO.out.alloc (.cells #[.slice Ar m cr] 28)) (RV_new wr [.slice Ar m cr] 28 1 1 (0, 0) rfl (by decide)) (by intro u hu; simp at hu; subst hu; rfl) (by omega) (by simp; have := AB.out.size; omega) rfl rfl rfl rfl rfl (by decide) (by decide) ?_; intro v2 w2 ho2 hb2 hg2; obtain ⟨A2, c2, rfl⟩ := (RV_own ho2).slice; have hal : Below wr.heap.size wr (wr.alloc (.cells #[.slice Ar m cr] 28)) := (Below.refl _ _).alloc (Nat.le_refl _) _; have hB2 := (AB.out.trans (hal.mono AB.out.size)).trans hb2; have hH2 := HSP.apart (HSP.now (HSP.below AH.out hal)) hg2 APG.out (fun r h => h); clear hg2 hb2 hal; have hal2 : Below w2.heap.size w2 (w2.alloc (.cells #[.slice Ar m cr] 28)) := (Below.refl _ _).alloc (Nat.le_refl _) _; have hH3 := HSP.now (HSP.below hH2 hal2); have hRB := rbs_p w2 (.slice Ar m cr) y (RV.below ARy.out hB2) 28; have AH3 := Aside0.mk hH3; have ARB := Aside0.mk hRB; have AO2 := Aside0.mk (World.ownsRow.alloc ho2 (.cells #[.slice Ar m cr] 28)); have AB2 := Aside0.mk (hB2.trans (hal2.mono hB2.size)); clear hH2 hH3 hRB ho2 hB2 hal2)
        | (go_at_call 18; refine (write_at w.heap.size _ (a.take j) (j / 64) [y] _ AH3.out.hs ARB.out ALN.out (by simp)).mono ?_; rintro e w5 ⟨rfl, hS5⟩; rw [AM.out] at hS5; have hg5 := HSP.grown hS5; have hO5 := own_past AO2.out hg5 (.inr (by obtain ⟨cs2, hcs2⟩ := AH3.out.block; exact own_apart AO2.out hcs2 (by decide))); have hB5 : Below w.heap.size w w5 := AB2.out.grown hg5 AB2.out.size (fun q e => by rw [Option.some.injEq] at e; omega); have hH5 := HS.now hS5.hs; have hP5 : RBs w5 (.slice A2 (N + 1) c2) (l ++ [y]) := ⟨_, by rw [ALL.out]; exact RV_own hO5, fun i u x hu hx => RV.below (AP.out i u x hu hx) hB5⟩; have hQ5 := rbs_p w5 (.slice A0 L c0) a (by rw [AL.out]; exact RV.below ABb.out hB5) 28; have AQ5 := Aside0.mk hQ5; have AH5 := Aside0.mk hH5; have AP5 := Aside0.mk hP5; have AB5 := Aside0.mk hB5; clear hS5 hg5 hO5 hH5 hP5 hB5 hQ5)
        | (go_at_call 13; refine (B1.out _ _ AQ5.out).mono ?_; rintro e w6 ⟨rfl, hb6⟩)
        | (refine wpList_store_new 26 (.tmp 10) (.tmp 63) _ BD ABs.out (ABl.out.symm ▸ by rfl) ABo.out rfl rfl rfl rfl ?_))
      obtain ⟨p4, hp4⟩ : ∃ x, w6.heap.size = x := ⟨_, rfl⟩
      have bA := (Below.refl w5.heap.size w5).alloc (Nat.le_refl _) (.cells #[.slice A0 L c0] 28)
      have bB := below_size2 bA hb6
      have bC := bB.alloc bB.size (.cells BD.toArray 26)
      have H4 := (At32.new w6 BD ABl.out).drew
      have V2 := (AP5.out.below bC).below (Below.refl _ _).drew
      have HH := HS.now (HS.below (HS.now (HS.below AH5.out bC)) (Below.refl _ _).drew)
      have HB : Below w.heap.size w (w6.alloc (.cells BD.toArray 26)).drew := (below_size2 AB5.out bC).drew
      have hl9 : (l ++ [y]).length ≤ 1000 := by rw [ALL.out]; omega
      have hwu : IntKind.u64.wrap (L : Int) = (L : Int) := wrap_u64n L (by omega)
      have AHB := Aside0.mk HB
      rw [hp4] at H4
      simp only [hp4]
      dsimp only [Act.put]
      clear HB bA bB bC hb6 AQ5 AH5 AP5 AB5 hp4
      refine start_ (n := 28) (S := fun w' => Sem.run Try.prog (Instr.loadAt 26 (.pointer (some ⟨p4, 0, none⟩))) w' = .ok (.agg BD.toArray) w') (ds := []) #[false, false, false, false, false, false, false, false, false, false, false, false, false, false, false, false, false, false, false, false, false, false, false, false, false, false, false, false] (by kernel_rfl) rfl rfl ((load32 H4)) (fun hHeld => ?_)
      generalize (w6.alloc (.cells BD.toArray 26)).drew = w12 at H4 V2 HH AHB hHeld ⊢
      have BL := Below.refl w12.heap.size w12
      refine pure_ (i := 0) (N := some 64) (v := ?_) (a' := ?_) #[true, false, false, false, false, false, false, false, false, false, false, false, false, false, false, false, false, false, false, false, false, false, false, false, false, false, false, false] rfl rfl (by kernel_rfl) (fun _ _ _ h => h) (Or.inl ⟨by rfl, ?_⟩) ?_ ?_
      rotate_left
      · intro w'
        go_simp
        with_reducible rfl
      rotate_left
      · simp only [Act.put, List.setIfInBounds_toArray, List.set_cons_zero, List.set_cons_succ, i64_w, i32_w]
        rfl
      refine take_ (i := 2) (N := some 66) (v := .agg BD.toArray) (a' := ?_) #[true, false, true, false, false, false, false, false, false, false, false, false, false, false, false, false, false, false, false, false, false, false, false, false, false, false, false, false] rfl rfl (by kernel_rfl) (fun _ _ _ h => h) (Or.inl ⟨by rfl, ?_⟩) hHeld ?_ ?_
      · intro w' s0
        exact exec_load rfl rfl s0
      rotate_left
      · simp only [Act.put, List.setIfInBounds_toArray, List.set_cons_zero, List.set_cons_succ, i64_w, i32_w]
        rfl
      refine one_ (i := 1) (N := some 65) #[true, true, true, false, false, false, false, false, false, false, false, false, false, false, false, false, false, false, false, false, false, false, false, false, false, false, false, false] rfl rfl (by kernel_rfl) (by decide) (fun K hK => ?_)
      refine goes_ Try.func13 (by kernel_rfl) rfl #[.slice A2 (N + 1) c2] (by rfl) rfl rfl (by simp only [List.map_toArray, List.map_cons, List.map_nil]; rfl) ?_
      with_reducible refine (B2.out w12 _ (l ++ [y]) V2 AF2.out hl9).mono ?_
      rintro e w13 ⟨rfl, hd13⟩
      refine ⟨_, rfl, ?_⟩
      have H4a := H4.below hd13
      have HHa := HS.now (HS.below HH hd13)
      have BLa := Below.trans BL (hd13.mono BL.size)
      refine hK.out _ _ ((load32 H4a)) (fun hHeld => ?_)
      clear hK K
      refine norm_ (a' := ?_) ?_ ?_
      rotate_left
      · show Act.put _ (some 65) _ = _
        simp only [Act.put, List.setIfInBounds_toArray, List.set_cons_zero, List.set_cons_succ, i64_w, i32_w]
        rfl
      refine pure_ (i := 3) (N := some 67) (v := ?_) (a' := ?_) #[true, true, true, true, false, false, false, false, false, false, false, false, false, false, false, false, false, false, false, false, false, false, false, false, false, false, false, false] rfl rfl (by kernel_rfl) (fun _ _ _ h => h) (Or.inl ⟨by rfl, ?_⟩) ?_ ?_
      rotate_left
      · intro w'
        go_simp
        with_reducible rfl
      rotate_left
      · simp only [Act.put, List.setIfInBounds_toArray, List.set_cons_zero, List.set_cons_succ, i64_w, i32_w]
        rfl
      refine pure_ (i := 4) (N := some 68) (v := ?_) (a' := ?_) #[true, true, true, true, true, false, false, false, false, false, false, false, false, false, false, false, false, false, false, false, false, false, false, false, false, false, false, false] rfl rfl (by kernel_rfl) (fun _ _ _ h => h) (Or.inl ⟨by rfl, ?_⟩) ?_ ?_
      rotate_left
      · intro w'
        go_simp
        with_reducible rfl
      rotate_left
      · simp only [Act.put, List.setIfInBounds_toArray, List.set_cons_zero, List.set_cons_succ, i64_w, i32_w]
        rfl
      refine pure_ (i := 5) (N := some 69) (v := ?_) (a' := ?_) #[true, true, true, true, true, true, false, false, false, false, false, false, false, false, false, false, false, false, false, false, false, false, false, false, false, false, false, false] rfl rfl (by kernel_rfl) (fun _ _ _ h => h) (Or.inl ⟨by rfl, ?_⟩) ?_ ?_
      rotate_left
      · intro w'
        go_simp
        with_reducible rfl
      rotate_left
      · simp only [Act.put, List.setIfInBounds_toArray, List.set_cons_zero, List.set_cons_succ, i64_w, i32_w]
        rfl
      refine take_ (i := 7) (N := some 71) (v := .agg BD.toArray) (a' := ?_) #[true, true, true, true, true, true, false, true, false, false, false, false, false, false, false, false, false, false, false, false, false, false, false, false, false, false, false, false] rfl rfl (by kernel_rfl) (fun _ _ _ h => h) (Or.inl ⟨by rfl, ?_⟩) hHeld ?_ ?_
      · intro w' s0
        exact exec_load rfl rfl s0
      rotate_left
      · simp only [Act.put, List.setIfInBounds_toArray, List.set_cons_zero, List.set_cons_succ, i64_w, i32_w]
        rfl
      refine one_ (i := 6) (N := some 70) #[true, true, true, true, true, true, true, true, false, false, false, false, false, false, false, false, false, false, false, false, false, false, false, false, false, false, false, false] rfl rfl (by kernel_rfl) (by decide) (fun K hK => ?_)
      refine goes_ Try.func19 (by kernel_rfl) rfl #[.pointer (some ⟨w.heap.size, 0, none⟩)] (by rfl) rfl rfl (by simp only [List.map_toArray, List.map_cons, List.map_nil]; rfl) ?_
      with_reducible refine (B3.out w13 _ HHa).mono ?_
      rintro e w14 ⟨rfl, hd14⟩
      refine ⟨_, rfl, ?_⟩
      have H4b := H4a.below hd14
      have HHb := HS.now (HS.below HHa hd14)
      have BLb := Below.trans BLa (hd14.mono BLa.size)
      refine hK.out _ _ ((load32 H4b)) (fun hHeld => ?_)
      clear hK K
      refine norm_ (a' := ?_) ?_ ?_
      rotate_left
      · show Act.put _ (some 70) _ = _
        simp only [Act.put, List.setIfInBounds_toArray, List.set_cons_zero, List.set_cons_succ, i64_w, i32_w]
        rfl
      refine pure_ (i := 8) (N := some 72) (v := ?_) (a' := ?_) #[true, true, true, true, true, true, true, true, true, false, false, false, false, false, false, false, false, false, false, false, false, false, false, false, false, false, false, false] rfl rfl (by kernel_rfl) (fun _ _ _ h => h) (Or.inl ⟨by rfl, ?_⟩) ?_ ?_
      rotate_left
      · intro w'
        go_simp
        with_reducible rfl
      rotate_left
      · simp only [Act.put, List.setIfInBounds_toArray, List.set_cons_zero, List.set_cons_succ, i64_w, i32_w]
        rfl
      refine pure_ (i := 9) (N := some 73) (v := ?_) (a' := ?_) #[true, true, true, true, true, true, true, true, true, true, false, false, false, false, false, false, false, false, false, false, false, false, false, false, false, false, false, false] rfl rfl (by kernel_rfl) (fun _ _ _ h => h) (Or.inl ⟨by rfl, ?_⟩) ?_ ?_
      rotate_left
      · intro w'
        go_simp
        with_reducible rfl
      rotate_left
      · simp only [Act.put, List.setIfInBounds_toArray, List.set_cons_zero, List.set_cons_succ, i64_w, i32_w]
        rfl
      refine pure_ (i := 10) (N := some 74) (v := ?_) (a' := ?_) #[true, true, true, true, true, true, true, true, true, true, true, false, false, false, false, false, false, false, false, false, false, false, false, false, false, false, false, false] rfl rfl (by kernel_rfl) (fun _ _ _ h => h) (Or.inl ⟨by rfl, ?_⟩) ?_ ?_
      rotate_left
      · intro w'
        go_simp
        with_reducible rfl
      rotate_left
      · simp only [Act.put, List.setIfInBounds_toArray, List.set_cons_zero, List.set_cons_succ, i64_w, i32_w]
        rfl
      refine pure_ (i := 11) (N := some 75) (v := ?_) (a' := ?_) #[true, true, true, true, true, true, true, true, true, true, true, true, false, false, false, false, false, false, false, false, false, false, false, false, false, false, false, false] rfl rfl (by kernel_rfl) (fun _ _ _ h => h) (Or.inl ⟨by rfl, ?_⟩) ?_ ?_
      rotate_left
      · intro w'
        go_simp
        with_reducible rfl
      rotate_left
      · simp only [Act.put, List.setIfInBounds_toArray, List.set_cons_zero, List.set_cons_succ, i64_w, i32_w]
        rfl
      refine take_ (i := 13) (N := some 77) (v := .agg BD.toArray) (a' := ?_) #[true, true, true, true, true, true, true, true, true, true, true, true, false, true, false, false, false, false, false, false, false, false, false, false, false, false, false, false] rfl rfl (by kernel_rfl) (fun _ _ _ h => h) (Or.inl ⟨by rfl, ?_⟩) hHeld ?_ ?_
      · intro w' s0
        exact exec_load rfl rfl s0
      rotate_left
      · simp only [Act.put, List.setIfInBounds_toArray, List.set_cons_zero, List.set_cons_succ, i64_w, i32_w]
        rfl
      refine one_ (i := 12) (N := some 76) #[true, true, true, true, true, true, true, true, true, true, true, true, true, true, false, false, false, false, false, false, false, false, false, false, false, false, false, false] rfl rfl (by kernel_rfl) (by decide) (fun K hK => ?_)
      refine goes_ Try.func19 (by kernel_rfl) rfl #[.pointer (some ⟨w.heap.size, 0, none⟩)] (by rfl) rfl rfl (by simp only [List.map_toArray, List.map_cons, List.map_nil]; rfl) ?_
      with_reducible refine (B3.out w14 _ HHb).mono ?_
      rintro e w15 ⟨rfl, hd15⟩
      refine ⟨_, rfl, ?_⟩
      have H4c := H4b.below hd15
      have HHc := HS.now (HS.below HHb hd15)
      have BLc := Below.trans BLb (hd15.mono BLb.size)
      refine hK.out _ _ ((load32 H4c)) (fun hHeld => ?_)
      clear hK K
      refine norm_ (a' := ?_) ?_ ?_
      rotate_left
      · show Act.put _ (some 76) _ = _
        simp only [Act.put, List.setIfInBounds_toArray, List.set_cons_zero, List.set_cons_succ, i64_w, i32_w]
        rfl
      refine pure_ (i := 14) (N := some 78) (v := ?_) (a' := ?_) #[true, true, true, true, true, true, true, true, true, true, true, true, true, true, true, false, false, false, false, false, false, false, false, false, false, false, false, false] rfl rfl (by kernel_rfl) (fun _ _ _ h => h) (Or.inl ⟨by rfl, ?_⟩) ?_ ?_
      rotate_left
      · intro w'
        go_simp
        with_reducible rfl
      rotate_left
      · simp only [Act.put, List.setIfInBounds_toArray, List.set_cons_zero, List.set_cons_succ, i64_w, i32_w]
        rfl
      refine pure_ (i := 15) (N := some 79) (v := ?_) (a' := ?_) #[true, true, true, true, true, true, true, true, true, true, true, true, true, true, true, true, false, false, false, false, false, false, false, false, false, false, false, false] rfl rfl (by kernel_rfl) (fun _ _ _ h => h) (Or.inl ⟨by rfl, ?_⟩) ?_ ?_
      rotate_left
      · intro w'
        go_simp
        with_reducible rfl
      rotate_left
      · simp only [Act.put, List.setIfInBounds_toArray, List.set_cons_zero, List.set_cons_succ, i64_w, i32_w]
        rfl
      refine pure_ (i := 16) (N := some 80) (v := ?_) (a' := ?_) #[true, true, true, true, true, true, true, true, true, true, true, true, true, true, true, true, true, false, false, false, false, false, false, false, false, false, false, false] rfl rfl (by kernel_rfl) (fun _ _ _ h => h) (Or.inl ⟨by rfl, ?_⟩) ?_ ?_
      rotate_left
      · intro w'
        go_simp
        with_reducible rfl
      rotate_left
      · simp only [Act.put, List.setIfInBounds_toArray, List.set_cons_zero, List.set_cons_succ, i64_w, i32_w]
        rfl
      refine pure_ (i := 17) (N := some 81) (v := ?_) (a' := ?_) #[true, true, true, true, true, true, true, true, true, true, true, true, true, true, true, true, true, true, false, false, false, false, false, false, false, false, false, false] rfl rfl (by kernel_rfl) (fun _ _ _ h => h) (Or.inl ⟨by rfl, ?_⟩) ?_ ?_
      rotate_left
      · intro w'
        go_simp
        with_reducible rfl
      rotate_left
      · simp only [Act.put, List.setIfInBounds_toArray, List.set_cons_zero, List.set_cons_succ, i64_w, i32_w]
        rfl
      refine pure_ (i := 19) (N := some 83) (v := ?_) (a' := ?_) #[true, true, true, true, true, true, true, true, true, true, true, true, true, true, true, true, true, true, false, true, false, false, false, false, false, false, false, false] rfl rfl (by kernel_rfl) (fun _ _ _ h => h) (Or.inl ⟨by rfl, ?_⟩) ?_ ?_
      rotate_left
      · intro w'
        go_simp
        with_reducible rfl
      rotate_left
      · simp only [Act.put, List.setIfInBounds_toArray, List.set_cons_zero, List.set_cons_succ, i64_w, i32_w]
        rfl
      refine pure_ (i := 20) (N := some 84) (v := ?_) (a' := ?_) #[true, true, true, true, true, true, true, true, true, true, true, true, true, true, true, true, true, true, false, true, true, false, false, false, false, false, false, false] rfl rfl (by kernel_rfl) (fun _ _ _ h => h) (Or.inl ⟨by rfl, ?_⟩) ?_ ?_
      rotate_left
      · intro w'
        go_simp
        with_reducible rfl
      rotate_left
      · simp only [Act.put, List.setIfInBounds_toArray, List.set_cons_zero, List.set_cons_succ, i64_w, i32_w]
        rfl
      refine pure_ (i := 21) (N := some 85) (v := ?_) (a' := ?_) #[true, true, true, true, true, true, true, true, true, true, true, true, true, true, true, true, true, true, false, true, true, true, false, false, false, false, false, false] rfl rfl (by kernel_rfl) (fun _ _ _ h => h) (Or.inl ⟨by rfl, ?_⟩) ?_ ?_
      rotate_left
      · intro w'
        go_simp
        with_reducible rfl
      rotate_left
      · simp only [Act.put, List.setIfInBounds_toArray, List.set_cons_zero, List.set_cons_succ, i64_w, i32_w]
        rfl
      refine one_ (i := 18) (N := some 82) #[true, true, true, true, true, true, true, true, true, true, true, true, true, true, true, true, true, true, true, true, true, true, false, false, false, false, false, false] rfl rfl (by kernel_rfl) (by decide) (fun K hK => ?_)
      refine goes_ Try.func21 (by kernel_rfl) rfl #[.pointer (some ⟨w.heap.size, 0, none⟩)] (by rfl) rfl rfl (by simp only [List.map_toArray, List.map_cons, List.map_nil]; rfl) ?_
      with_reducible refine (B4.out w15 _ HHc).mono ?_
      rintro e w16 ⟨rfl, hd16⟩
      refine ⟨_, rfl, ?_⟩
      have H4d := H4c.below hd16
      have HHd := HS.now (HS.below HHc hd16)
      have BLd := Below.trans BLc (hd16.mono BLc.size)
      refine hK.out _ _ ((load32 H4d)) (fun hHeld => ?_)
      clear hK K
      refine norm_ (a' := ?_) ?_ ?_
      rotate_left
      · show Act.put _ (some 82) _ = _
        simp only [Act.put, List.setIfInBounds_toArray, List.set_cons_zero, List.set_cons_succ, i64_w, i32_w]
        rfl
      refine pure_ (i := 22) (N := some 86) (v := ?_) (a' := ?_) #[true, true, true, true, true, true, true, true, true, true, true, true, true, true, true, true, true, true, true, true, true, true, true, false, false, false, false, false] rfl rfl (by kernel_rfl) (fun _ _ _ h => h) (Or.inl ⟨by rfl, ?_⟩) ?_ ?_
      rotate_left
      · intro w'
        go_simp
        with_reducible rfl
      rotate_left
      · simp only [Act.put, List.setIfInBounds_toArray, List.set_cons_zero, List.set_cons_succ, i64_w, i32_w]
        rfl
      refine pure_ (i := 23) (N := some 87) (v := ?_) (a' := ?_) #[true, true, true, true, true, true, true, true, true, true, true, true, true, true, true, true, true, true, true, true, true, true, true, true, false, false, false, false] rfl rfl (by kernel_rfl) (fun _ _ _ h => h) (Or.inl ⟨by rfl, ?_⟩) ?_ ?_
      rotate_left
      · intro w'
        go_simp
        with_reducible rfl
      rotate_left
      · simp only [Act.put, List.setIfInBounds_toArray, List.set_cons_zero, List.set_cons_succ, i64_w, i32_w]
        rfl
      refine pure_ (i := 24) (N := some 88) (v := ?_) (a' := ?_) #[true, true, true, true, true, true, true, true, true, true, true, true, true, true, true, true, true, true, true, true, true, true, true, true, true, false, false, false] rfl rfl (by kernel_rfl) (fun _ _ _ h => h) (Or.inl ⟨by rfl, ?_⟩) ?_ ?_
      rotate_left
      · intro w'
        go_simp
        with_reducible rfl
      rotate_left
      · simp only [Act.put, List.setIfInBounds_toArray, List.set_cons_zero, List.set_cons_succ, i64_w, i32_w]
        rfl
      refine one_ (i := 25) (N := some 89) #[true, true, true, true, true, true, true, true, true, true, true, true, true, true, true, true, true, true, true, true, true, true, true, true, true, true, false, false] rfl rfl (by kernel_rfl) (by decide) (fun K hK => ?_)
      refine goes_ Try.func11 (by kernel_rfl) rfl #[] (by rfl) rfl rfl (by simp) ?_
      with_reducible refine (awake_calls w16).mono ?_
      rintro e w17 ⟨rfl, hd17⟩
      refine ⟨_, rfl, ?_⟩
      have H4e := H4d.below hd17
      have HHe := HS.now (HS.below HHd hd17)
      have BLe := Below.trans BLd (hd17.mono BLd.size)
      refine hK.out _ _ ((load32 H4e)) (fun hHeld => ?_)
      clear hK K
      refine norm_ (a' := ?_) ?_ ?_
      rotate_left
      · show Act.put _ (some 89) _ = _
        simp only [Act.put, List.setIfInBounds_toArray, List.set_cons_zero, List.set_cons_succ, i64_w, i32_w]
        rfl
      refine pure_ (i := 26) (N := some 90) (v := ?_) (a' := ?_) #[true, true, true, true, true, true, true, true, true, true, true, true, true, true, true, true, true, true, true, true, true, true, true, true, true, true, true, false] rfl rfl (by kernel_rfl) (fun _ _ _ h => h) (Or.inl ⟨by rfl, ?_⟩) ?_ ?_
      rotate_left
      · intro w'
        go_simp
        with_reducible rfl
      rotate_left
      · simp only [Act.put, List.setIfInBounds_toArray, List.set_cons_zero, List.set_cons_succ, i64_w, i32_w]
        rfl
      refine pure_ (i := 27) (N := some 4) (v := ?_) (a' := ?_) #[true, true, true, true, true, true, true, true, true, true, true, true, true, true, true, true, true, true, true, true, true, true, true, true, true, true, true, true] rfl rfl (by kernel_rfl) (fun _ _ _ h => h) (Or.inl ⟨by rfl, ?_⟩) ?_ ?_
      rotate_left
      · intro w'
        go_simp
        with_reducible rfl
      rotate_left
      · simp only [Act.put, List.setIfInBounds_toArray, List.set_cons_zero, List.set_cons_succ, i64_w, i32_w]
        rfl
      refine done_ (by kernel_rfl) ?_
      go_wp2_with fail
      go_ret
      exact ⟨rfl, below_size2 AHB.out BLe⟩
theorem shaParts_row (lv : Value) (a : List UInt8) (cv : Value) (cs : List Int) (w : World) (hb : RV w lv a.length 1 (bs a)) (_ : a.length ≤ 140737488355328) (hc : RV w cv cs.length 1 (ns .u16 cs)) (_ : cs.length ≤ 140737488355328) (hcw : ∀ n ∈ cs, (Lit.int .u16 n).wf = true) :
    Calls Try.prog 7 #[lv, cv] w fun e w' => e = .returned (.bool true) ∧ Below w.heap.size w w' := shaParts_walk lv cv a cs w hb hc hcw

end Go.Proofs.Ythhandkckbnafaa
