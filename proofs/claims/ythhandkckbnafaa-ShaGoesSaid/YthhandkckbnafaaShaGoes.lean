/-
  ShaGoes: the walk of the law: whatever comes to a hash, its sum and how much came are the document's.
-/
import Derived.Test.YthhandkckbnafaaShaGoA
import Derived.Test.YthhandkckbnafaaShaAwake
set_option linter.unusedVariables false
set_option linter.unusedSimpArgs false
namespace Go.Proofs.Ythhandkckbnafaa
open Go.RowKit Go.Proofs.YthhandkckbnafaaZ.ZA Go.Proofs.YthhandkckbnafaaW.PrintWords Go.Proofs.YthhandkckbnafaaW.PrintLast Go.Proofs.YthhandkckbnafaaW.PrintMore
theorem sum_at {M : List UInt8} {BD : List Value} (hBD : bs (digest M) = BD) (hl : M.length ≤ 20000) (W : World) (g : Nat) (h : HS W W g M (M.length / 64)) : Calls Try.prog 19 #[.pointer (some ⟨g, 0, none⟩)] W fun e w' => e = .returned (.agg BD.toArray) ∧ Below W.heap.size W w' := by
  have h := hsum_calls g M W h (by omega)
  rw [hBD] at h
  exact h
theorem refsum_at {M : List UInt8} {BD : List Value} (hBD : bs (digest M) = BD) (hl : M.length ≤ 20000) (W : World) (A : Option Addr) (n c : Nat) (hr : RV W (.slice A n c) M.length 1 (bs M)) : Calls Try.prog 15 #[.slice (some ⟨W.heap.size, 0, none⟩) 1 1] (W.alloc (.cells #[.slice A n c] 28)) fun e w' => e = .returned (.agg BD.toArray) ∧ Below (W.alloc (.cells #[.slice A n c] 28)).heap.size (W.alloc (.cells #[.slice A n c] 28)) w' := by
  have h := refSum_digest _ [M] _ (rbs_p W (.slice A n c) M hr 28) (by simp; omega)
  rw [show ([M] : List (List UInt8)).flatten = M by simp, hBD] at h
  exact h
theorem hs_zero (w : World) : HS (w.alloc (.cells #[.int .u32 0, .int .u32 0, .int .u32 0, .int .u32 0, .int .u32 0, .int .u32 0, .int .u32 0, .int .u32 0, .int .u64 0, .slice none 0 0] 39)) (w.alloc (.cells #[.int .u32 0, .int .u32 0, .int .u32 0, .int .u32 0, .int .u32 0, .int .u32 0, .int .u32 0, .int .u32 0, .int .u64 0, .slice none 0 0] 39)) w.heap.size [] 0 :=
  ⟨_, none, 0, ⟨heap_alloc_new w _, rfl, World.grownBy.refl _ _⟩, ⟨_, _, _, _, _, _, _, _, rfl, by decide, by decide, by decide, by decide, by decide, by decide, by decide, by decide⟩, fun h => absurd h (by decide), RV_nil _ 1, by decide⟩
theorem own_apart2 {w w0 : World} {base : Nat} {e : TypeId} {size n : Nat} {v : Value} {xs : List Value} (h : w.ownsRow base e size v n xs) {g b : Nat} {M : List UInt8} (hg : HS w0 w g M b) (he : e ≠ 39) : v.ownBlock ≠ some g := by
  obtain ⟨H, A, c, h1, _⟩ := hg
  exact own_apart h h1.1 he
theorem apart_two {v av : Value} {s0 : Nat} (h1 : ∀ q, v.ownBlock = some q → s0 ≤ q) (h2 : ∀ q, av.ownBlock = some q → q < s0) : v.ownBlock = none ∨ v.ownBlock ≠ av.ownBlock := by
  cases hv : v.ownBlock with
  | none => exact .inl rfl
  | some q =>
    right
    intro e
    have k1 := h1 q hv
    have k2 := h2 q e.symm
    omega
theorem own_lt2 {w : World} {base : Nat} {e : TypeId} {size n : Nat} {v : Value} {xs : List Value} (h : w.ownsRow base e size v n xs) : ∀ q, v.ownBlock = some q → q < w.heap.size := fun q hq => by
  rcases Nat.lt_or_ge q w.heap.size with h1 | h1
  · exact h1
  · exact absurd hq (own_lt h h1)
theorem wB_succ (l : List Wr) (k : Nat) (hk : k < l.length) : wB (l.take (k + 1)) = wB (l.take k) ++ (l[k]).2.1.flatten := flat_succ (fun x : Wr => x.2.1.flatten) l k hk
theorem wB_mono (l : List Wr) (k : Nat) : (wB (l.take k)).length ≤ (wB l).length := flat_mono (fun x : Wr => x.2.1.flatten) l k
theorem conv9 (w : World) : Sem.run Try.prog (convert 28 28 (.slice (some ⟨w.heap.size, 0, none⟩) 9 9)) (w.alloc (.cells #[.int .u8 101, .int .u8 108, .int .u8 115, .int .u8 101, .int .u8 119, .int .u8 104, .int .u8 101, .int .u8 114, .int .u8 101] 5)) = .ok (.slice (some ⟨w.heap.size, 0, none⟩) 9 9) (w.alloc (.cells #[.int .u8 101, .int .u8 108, .int .u8 115, .int .u8 101, .int .u8 119, .int .u8 104, .int .u8 101, .int .u8 114, .int .u8 101] 5 (9, 10))) := Lib.run_convert_bytes_const (P := Try.prog) w 28 5 _ 9 9 Try.underlying28 Try.underlying5
def nine : List UInt8 := [101, 108, 115, 101, 119, 104, 101, 114, 101]
theorem rbs_9 (w : World) : RBs ((w.alloc (.cells #[.int .u8 101, .int .u8 108, .int .u8 115, .int .u8 101, .int .u8 119, .int .u8 104, .int .u8 101, .int .u8 114, .int .u8 101] 5 (9, 10))).alloc (.cells #[.slice (some ⟨w.heap.size, 0, none⟩) 9 9] 28)) (.slice (some ⟨w.heap.size + 1, 0, none⟩) 1 1) [nine] := by
  have h := rbs_p _ _ nine (RV_new w (bs nine) 5 9 1 (9, 10) rfl (by decide)) 28
  have s1 : ∀ (W : World) (o : Obj), (W.alloc o).heap.size = W.heap.size + 1 := fun W o => by simp
  simp only [s1] at h
  exact h
theorem below_nine {wr w6 w8 : World} {o1 o2 : Obj} (hb6 : Below wr.heap.size wr w6) (hg8 : ((w6.alloc o1).alloc o2).grownBy w8 (some wr.heap.size)) : Below wr.heap.size wr w8 := by
  have h1 := below_size2 (below_size2 hb6 ((Below.refl _ _).alloc (Nat.le_refl _) o1)) ((Below.refl _ _).alloc (Nat.le_refl _) o2)
  exact h1.grown hg8 h1.size (fun q e => by rw [Option.some.injEq] at e; omega)
set_option maxHeartbeats 4000000 in
set_option maxRecDepth 100000 in
theorem shaGoes_walk (lv : Value) (l : List Wr) (made : Bool) (w : World) (hlv : Wrs w lv l) :
    Calls Try.prog 4 #[lv, .bool made] w fun e w' => e = .returned (.bool true) ∧ Below w.heap.size w w' := by
  obtain ⟨A, c, rfl⟩ := hlv.1.slice
  obtain ⟨N, hN⟩ : ∃ N, l.length = N := ⟨_, rfl⟩
  have hNm := hlv.1.max
  rw [hN] at hlv hNm ⊢
  have ALV := Aside0.mk hlv
  have AN := Aside0.mk hN
  clear hlv hN
  have ho : made = true ∨ made = false := by cases made <;> simp
  go_enter Try.func4, Try.ntmps4
  rcases ho with rfl | rfl
  · go_wp2_with (first
      | (go_at_call 16; refine (heavy_calls _ l _ ALV.out).mono ?_; rintro e w1 ⟨b, rfl, hb1, hhv⟩; cases b; (have AHV := Aside0.mk (hhv rfl); clear hhv); rotate_left; clear hhv)
      | (go_at_call 11; refine (awake_calls _).mono ?_; rintro e w8 ⟨rfl, hb8⟩)
      | (go_at_call 17; refine (new_calls _).mono ?_; rintro e w2 ⟨rfl, hN2, hb2⟩))
    · go_ret
      exact ⟨rfl, below_size2 hb1 hb8⟩
    have hB0 := below_size2 hb1 hb2
    have hge := hb1.size
    generalize w1.heap.size = g0 at hN2 hge ⊢
    clear hb1 hb2
    go_loopw [5, 6, 7] (fun hv av i wr => ∃ k g : Nat, k ≤ N ∧ i = .int .i64 (k : Int) ∧ hv = .pointer (some ⟨g, 0, none⟩) ∧ HS wr wr g (wB (l.take k)) ((wB (l.take k)).length / 64) ∧ wr.ownsRow w.heap.size 5 1 av (wB (l.take k)).length (bs (wB (l.take k))) ∧ w.heap.size ≤ g ∧ Below w.heap.size w wr) (fun _ _ i _ => N - (intOf i).toNat)
    case atStart => exact ⟨0, g0, Nat.zero_le _, rfl, rfl, by rw [List.take_zero]; exact hN2, by rw [List.take_zero]; exact World.ownsRow_nil _ _ _ _, hge, hB0⟩
    case round =>
      clear hN2 hge hB0
      obtain ⟨k, g, hk, rfl, rfl, hH, hown, hge, hB⟩ := hrel
      obtain ⟨Aa, ca, rfl⟩ := (RV_own hown).slice
      have hM2 := wB_mono l k
      have hM2' : (wB (l.take k)).length ≤ 20000 := Nat.le_trans hM2 AHV.out.2.2
      by_cases hlt : k < N
      · have hkl : k < l.length := by rw [AN.out]; exact hlt
        obtain ⟨b, o, rfl, hc0, hc1, hrb, hd0, hd1⟩ := (ALV.out.below hB).at_ k hkl
        have hsucc := wB_succ l k hkl
        have hmono := wB_mono l (k + 1)
        have hlight := AHV.out.2.1 l[k] (List.getElem_mem hkl)
        obtain ⟨x, HX⟩ := hidden l[k]
        rw [HX.out] at hc0 hc1 hrb hd0 hd1 hsucc hlight
        obtain ⟨xv, xp, xd⟩ := x
        simp only at hc0 hc1 hrb hd0 hd1 hsucc
        obtain ⟨hx1, hx2⟩ := hlight
        simp only at hx1 hx2
        obtain ⟨M, hM⟩ : ∃ M, wB (l.take k) = M := ⟨_, rfl⟩
        obtain ⟨M1, hM1⟩ : ∃ M1, wB (l.take (k + 1)) = M1 := ⟨_, rfl⟩
        rw [hM] at hH hown hM2' hsucc ⊢
        rw [hM1] at hmono hsucc
        have hM3 : M1.length ≤ 20000 := Nat.le_trans hmono AHV.out.2.2
        obtain ⟨m, hm⟩ : ∃ m, M.length = m := ⟨_, rfl⟩
        rw [hm] at hH hown hM2' ⊢
        obtain ⟨F, hF⟩ : ∃ F, xp.flatten = F := ⟨_, rfl⟩
        have hFl : F.length ≤ 20000 := by rw [← hF]; exact hx2
        have hlen : (M ++ xp.flatten).length ≤ 70368744177664 := by rw [← hsucc]; omega
        have hargW : ∀ W : World, Below w.heap.size w W → W.cell? ⟨b, o + k * 2, none⟩ = some xv ∧ W.cell? ⟨b, o + k * 2 + 1, none⟩ = some (.int .i64 xd) ∧ RBs W xv xp := fun W hW => by
          obtain ⟨b', o', e, y0, y1, y2, _⟩ := (ALV.out.below hW).at_ k hkl
          rw [Option.some.injEq, Addr.mk.injEq] at e
          obtain ⟨rfl, rfl, -⟩ := e
          rw [HX.out] at y0 y1 y2
          exact ⟨y0, y1, y2⟩
        rw [hF] at hsucc
        have AF := Aside0.mk hF
        clear hF
        have AARG := Aside0.mk hargW
        have AH := Aside0.mk hH
        have AO := Aside0.mk hown
        have ARB := Aside0.mk hrb
        have AB := Aside0.mk hB
        have AS := Aside0.mk hsucc
        have AM1 := Aside0.mk hM1
        have ALN := Aside0.mk hlen
        have AX1 := Aside0.mk hx1
        have AX2 := Aside0.mk hx2
        have AMm := Aside0.mk hm
        clear hH hown hrb hB hsucc hM1 hM hlen hx1 hx2 hmono hM2 hargW hm hc1
        go_wp2_with (first
          | (go_at_call 12; refine (copied_at xv xp _ ARB.out AX1.out AX2.out).mono ?_; rintro e w1 ⟨v1, rfl, ⟨us, hul, ho1, hus⟩, hb1⟩; obtain ⟨A1, c1, rfl⟩ := (RV_own ho1).slice; have hB1 := AB.out.trans (hb1.mono AB.out.size); have hH1 := HS.now (HS.below AH.out hb1); have hRB1 : RBs w1 (.slice A1 xp.length c1) xp := ⟨us, RV_own ho1, fun q u y h1 h2 => RV_own (hus q u y h1 h2)⟩; have AH1 := Aside0.mk hH1; have ARB1 := Aside0.mk hRB1; have AO1 := Aside0.mk ho1; have AUS := Aside0.mk hus; have AB1 := Aside0.mk hB1; have ABW := Aside0.mk hb1; clear hH1 hRB1 ho1 hus hB1 hb1)
          | (go_at_call 18; refine (write_at g _ M (m / 64) xp _ AH1.out ARB1.out ALN.out (by have := AX1.out; omega)).mono ?_; rintro e w2 ⟨rfl, hS2⟩; rw [AF.out, ← AS.out] at hS2; have hg2 := HSP.grown hS2; have hB2 : Below w.heap.size w w2 := AB1.out.grown hg2 AB1.out.size (fun q e => by rw [Option.some.injEq] at e; omega); have hc2 := (AARG.out w2 hB2).1; have AS2 := Aside0.mk hS2; have AG2 := Aside0.mk hg2; have AB2 := Aside0.mk hB2; clear hS2 hg2 hB2)
          | (go_at_call 14; refine (all_calls xv xp _ (AARG.out w2 AB2.out).2.2 (by have := AX2.out; omega)).mono ?_; rintro e w3 ⟨v3, rfl, ho3, hb3⟩; rw [AF.out] at ho3; obtain ⟨A3, c3, rfl⟩ := (RV_own ho3).slice; have AO3 := Aside0.mk ho3; have AB3 := Aside0.mk hb3; clear ho3 hb3)
          | (at_builtin; refine wpList_append_sep (.tmp 34) (.tmp 40) 28 w.heap.size 5 (.int .u8 0) 1 1 Try.underlying28 info_u8 (own_below (own_past (own_below AO.out ABW.out) AG2.out (.inr (by obtain ⟨cs2, hcs2⟩ := AS2.out.block; exact own_apart2 (own_below AO.out ABW.out) AH1.out (by decide)))) AB3.out) (RV_own AO3.out) (bs_one _) (by omega) (Nat.le_trans AB2.out.size AB3.out.size) rfl rfl rfl rfl rfl (by decide) (by decide) ?_; intro v4 w4 ho4 hb4 hg4 hsep))
        obtain ⟨A4, c4, rfl⟩ := (RV_own ho4).slice
        have hl12 : w1.heap.size ≤ w3.heap.size := Nat.le_trans AG2.out.size AB3.out.size
        have hs01 : wr.heap.size ≤ w1.heap.size := ABW.out.size
        have hav := own_lt2 AO.out
        have hag : Value.ownBlock (.slice Aa m ca) ≠ some g := own_apart2 AO.out AH.out (by decide)
        have hS4 : HSP (fun r => w1.heap.size ≤ r) w4 w4 g M1 (M1.length / 64) := HSP.apart (HSP.now (HSP.below AS2.out AB3.out)) hg4 hag (fun r hr e => by have h9 := hav r e; omega)
        have hA4 : ∀ q, Value.ownBlock (.slice A4 (m + F.length) c4) = some q → q < wr.heap.size ∨ w1.heap.size ≤ q := fun q hq => by
          rcases hsep with h | h
          · exact .inl (hav q (h ▸ hq))
          · exact .inr (Nat.le_trans hl12 (h q hq))
        have hO1 := own_past (own_below (own_past AO1.out AG2.out (.inr (own_apart2 AO1.out AH1.out (by decide)))) AB3.out) hg4 (apart_two (fun q hq => own_ge AO1.out q hq) hav)
        have hUS : ∀ (q : Nat) (u : Value) (y : List UInt8), us[q]? = some u → xp[q]? = some y → ∃ ys, w4.ownsRow wr.heap.size 5 1 u y.length ys := fun q u y h1 h2 => by
          have h3 := AUS.out q u y h1 h2
          exact ⟨_, own_past (own_below (own_past h3 AG2.out (.inr (own_apart2 h3 AH1.out (by decide)))) AB3.out) hg4 (apart_two (fun q hq => own_ge h3 q hq) hav)⟩
        have hUL : ∀ (q : Nat) (u : Value) (y : List UInt8), us[q]? = some u → xp[q]? = some y → ∀ r, u.ownBlock = some r → r < w1.heap.size := fun q u y h1 h2 => own_lt2 (AUS.out q u y h1 h2)
        have hB4 := (AB2.out.trans (AB3.out.mono AB2.out.size)).trans hb4
        have hgs : g < wr.heap.size := by
          obtain ⟨Hx, Ax, cx, hBlk, _⟩ := AH.out
          exact blk_lt hBlk.1
        have hws : w.heap.size ≤ wr.heap.size := AB.out.size
        rw [← bs_append, ← AS.out] at ho4
        have hml : m + F.length = M1.length := by rw [AS.out, List.length_append, AMm.out]
        rw [hml] at ho4 hA4 ⊢
        obtain ⟨s0, hs0⟩ : ∃ s0, wr.heap.size = s0 := ⟨_, rfl⟩
        obtain ⟨s1, hs1⟩ : ∃ s1, w1.heap.size = s1 := ⟨_, rfl⟩
        rw [hs0] at hA4 hO1 hUS hgs hws hs01
        rw [hs1] at hA4 hUL hS4 hs01
        have AA4 := Aside0.mk hA4
        have AS4 := Aside0.mk hS4
        have AO4 := Aside0.mk ho4
        have AUL := Aside0.mk hUL
        have AUS4 := Aside0.mk hUS
        have AO14 := Aside0.mk hO1
        have AB4 := Aside0.mk hB4
        clear hA4 hS4 ho4 hUL hUS hO1 hB4 hsep hav hag hl12 hb4 hg4 hml hc2 hc0
        have hxl : xp.length ≤ 300 := AX1.out
        clear AO AH ARB AB AH1 ARB1 AO1 AUS AB1 ABW AS2 AG2 AB2 AO3 AB3 ALN AX1 AX2 AMm AF AS hs0 hs1
        go_loopw [9] (fun qv wz => ∃ q : Nat, q ≤ xp.length ∧ qv = .int .i64 (q : Int) ∧ Out s0 s1 w4 wz ∧ (∀ (p : Nat) (u : Value) (y : List UInt8), us[p]? = some u → xp[p]? = some y → ∃ ys, wz.ownsRow s0 5 1 u y.length ys) ∧ wz.ownsRow s0 28 1 (.slice A1 xp.length c1) xp.length us) (fun qv _ => xp.length - (intOf qv).toNat)
        case atStart => exact ⟨0, Nat.zero_le _, rfl, Out.refl _ _ _, AUS4.out, AO14.out⟩
        case round =>
          clear AUS4 AO14
          obtain ⟨q, hq, rfl, hOut, hUz, hOz⟩ := hrel
          by_cases hqlt : q < xp.length
          · obtain ⟨b', o', u, rfl, hu, hcell, _⟩ := RV.at_ (RV_own hOz) q hqlt
            have hxq : xp[q]? = some xp[q] := List.getElem?_eq_getElem hqlt
            obtain ⟨y, hy⟩ : ∃ y, xp[q] = y := ⟨_, rfl⟩
            rw [hy] at hxq
            obtain ⟨ys, hys⟩ := hUz q u y hu hxq
            have hbl := AUL.out q u y hu hxq
            obtain ⟨Au, cu, rfl⟩ := (RV_own hys).slice
            obtain ⟨w5, hrun, hOut5, hk1, hk2⟩ := clear_own hys hbl
            have AK1 := Aside0.mk hk1
            have AK2 := Aside0.mk hk2
            have AOz := Aside0.mk hOz
            have AUz := Aside0.mk hUz
            have AO5 := Aside0.mk (hOut.trans hOut5)
            clear hk1 hk2 hOz hUz hOut hOut5 hys hbl hy hxq hu
            go_wp2_with fail
            go_roundw
            case rel => exact ⟨q + 1, by omega, by go_num, AO5.out, fun p u y h1 h2 => by obtain ⟨zs, hz⟩ := AUz.out p u y h1 h2; exact AK1.out _ _ _ hz, AK2.out _ _ _ _ _ _ (by decide) AOz.out⟩
            case measure => simp [intOf]; omega
          · have hS5 := HSP.hs (HSP.out AS4.out hOut (.inl hgs) (fun r hr => hr))
            have hO5 := Out.own hOut AO4.out AA4.out
            have hB5 := AB4.out.trans (Out.below hOut hws)
            have hc5 := (AARG.out _ hB5).2.1
            have AH5 := Aside0.mk hS5
            have AO5 := Aside0.mk hO5
            have AB5 := Aside0.mk hB5
            clear hS5 hO5 hB5 hOut hUz hOz AA4 AS4 AO4 AUL AB4 hq
            obtain ⟨BD, hBD⟩ : ∃ B, bs (digest M1) = B := ⟨_, rfl⟩
            have eDD := fun w => arr_eq 9998 (digest M1) (digest M1) (digest_length _) (digest_length _) w
            rw [beq_self_eq_true, hBD] at eDD
            have hg32 := guard32
            have hwu : IntKind.u64.wrap (M1.length : Int) = (M1.length : Int) := wrap_u64n _ (by omega)
            have ABD := Aside0.mk hBD
            clear hBD
            obtain ⟨d, hd⟩ : ∃ d, Go.bits .and .i64 xd 3 = d := ⟨_, rfl⟩
            by_cases h1 : d = 1
            · subst h1
              have hge2 := hge
              go_wp2_with (first
                | (go_at_call 19; refine (sum_at ABD.out hM3 _ g AH5.out).mono ?_; rintro e w6 ⟨rfl, hb6⟩)
                | (go_at_call 15; refine (refsum_at ABD.out hM3 w6 _ _ _ (RV.below (RV_own AO5.out) hb6)).mono ?_; rintro e w7 ⟨rfl, hb7⟩; have hb67 := below_size2 (below_size2 hb6 ((Below.refl w6.heap.size w6).alloc (Nat.le_refl _) (.cells #[.slice A4 M1.length c4] 28))) hb7; have AHl := Aside0.mk (HS.now (HS.below AH5.out hb67)); have AOl := Aside0.mk (own_below AO5.out hb67); have ABl := Aside0.mk (AB5.out.trans (hb67.mono AB5.out.size)); clear hb6 hb7 hb67)
                | (go_at_call 21; refine (len_calls _ M1 _ _ AHl.out (by omega)).mono ?_; rintro e w9 ⟨rfl, hb9⟩))
              have hH9 := HS.now (HS.below AHl.out hb9)
              have hO9 := own_below AOl.out hb9
              have hB9 := ABl.out.trans (hb9.mono ABl.out.size)
              rw [← AM1.out] at hH9 hO9
              go_roundw
              case rel => exact ⟨k + 1, _, by omega, by go_num, rfl, hH9, by rw [AM1.out] at hO9 ⊢; exact hO9, hge2, hB9⟩
              case measure => simp [intOf]; omega
            by_cases h2 : d = 2
            · subst h2
              go_wp2_with (first
                | (go_at_call 20; refine (copy_calls g M1 _ _ AH5.out (by omega)).mono ?_; rintro e w6 ⟨rfl, hH6, hb6⟩; have hge2 := AB5.out.size; have AHl := Aside0.mk hH6; have AOl := Aside0.mk (own_below AO5.out hb6); have ABl := Aside0.mk (AB5.out.trans (hb6.mono AB5.out.size)); clear hH6 hb6)
                | (go_at_call 21; refine (len_calls _ M1 _ _ AHl.out (by omega)).mono ?_; rintro e w9 ⟨rfl, hb9⟩))
              have hH9 := HS.now (HS.below AHl.out hb9)
              have hO9 := own_below AOl.out hb9
              have hB9 := ABl.out.trans (hb9.mono ABl.out.size)
              rw [← AM1.out] at hH9 hO9
              go_roundw
              case rel => exact ⟨k + 1, _, by omega, by go_num, rfl, hH9, by rw [AM1.out] at hO9 ⊢; exact hO9, hge2, hB9⟩
              case measure => simp [intOf]; omega
            by_cases h3 : d = 3
            · subst h3
              have hge2 := hge
              have hcv := conv9
              go_wp2_with (first
                | (go_at_call 20; refine (copy_calls g M1 _ _ AH5.out (by omega)).mono ?_; rintro e w6 ⟨rfl, hH6, hb6⟩)
                | (go_at_call 18; refine (write_at _ _ M1 (M1.length / 64) [nine] _ (HS.now (HS.below (HS.now (HS.below hH6 ((Below.refl _ _).alloc (Nat.le_refl _) _))) ((Below.refl _ _).alloc (Nat.le_refl _) _))) (rbs_9 w6) (by simp [nine]; omega) (by simp)).mono ?_; rintro e w8 ⟨rfl, hS8⟩; have hg8 := hS8.grown; have hb8 := below_nine hb6 hg8; have AHl := Aside0.mk (HS.now (HS.below AH5.out hb8)); have AOl := Aside0.mk (own_below AO5.out hb8); have ABl := Aside0.mk (AB5.out.trans (hb8.mono AB5.out.size)); clear hH6 hb6 hS8 hg8 hb8)
                | (go_at_call 21; refine (len_calls _ M1 _ _ AHl.out (by omega)).mono ?_; rintro e w9 ⟨rfl, hb9⟩))
              have hH9 := HS.now (HS.below AHl.out hb9)
              have hO9 := own_below AOl.out hb9
              have hB9 := ABl.out.trans (hb9.mono ABl.out.size)
              rw [← AM1.out] at hH9 hO9
              go_roundw
              case rel => exact ⟨k + 1, _, by omega, by go_num, rfl, hH9, by rw [AM1.out] at hO9 ⊢; exact hO9, hge2, hB9⟩
              case measure => simp [intOf]; omega
            · have hge2 := hge
              have AHl := AH5
              have AOl := AO5
              have ABl := AB5
              go_wp2_with (go_at_call 21; refine (len_calls _ M1 _ _ AHl.out (by omega)).mono ?_; rintro e w9 ⟨rfl, hb9⟩)
              have hH9 := HS.now (HS.below AHl.out hb9)
              have hO9 := own_below AOl.out hb9
              have hB9 := ABl.out.trans (hb9.mono ABl.out.size)
              rw [← AM1.out] at hH9 hO9
              go_roundw
              case rel => exact ⟨k + 1, _, by omega, by go_num, rfl, hH9, by rw [AM1.out] at hO9 ⊢; exact hO9, hge2, hB9⟩
              case measure => simp [intOf]; omega
      · have hkN : N = k := by omega
        subst hkN
        have hWB : wB (l.take N) = wB l := by rw [← AN.out, List.take_length]
        rw [hWB] at hH hown hM2' ⊢
        obtain ⟨M, hM⟩ : ∃ M, wB l = M := ⟨_, rfl⟩
        rw [hM] at hH hown hM2' ⊢
        obtain ⟨BD, hBD⟩ : ∃ B, bs (digest M) = B := ⟨_, rfl⟩
        have eDD := fun w => arr_eq 9998 (digest M) (digest M) (digest_length _) (digest_length _) w
        rw [beq_self_eq_true, hBD] at eDD
        have hg32 := guard32
        have ABD := Aside0.mk hBD
        have AH5 := Aside0.mk hH
        have AO5 := Aside0.mk hown
        have AB5 := Aside0.mk hB
        clear hBD hH hown hB hM hWB hM2
        go_wp2_with (first
          | (go_at_call 19; refine (sum_at ABD.out hM2' _ g AH5.out).mono ?_; rintro e w6 ⟨rfl, hb6⟩)
          | (go_at_call 15; refine (refsum_at ABD.out hM2' w6 _ _ _ (RV.below (RV_own AO5.out) hb6)).mono ?_; rintro e w7 ⟨rfl, hb7⟩; have hb67 := below_size2 (below_size2 hb6 ((Below.refl w6.heap.size w6).alloc (Nat.le_refl _) (.cells #[.slice Aa M.length ca] 28))) hb7; have ABl := Aside0.mk (AB5.out.trans (hb67.mono AB5.out.size)); clear hb6 hb7 hb67)
          | (go_at_call 11; refine (awake_calls _).mono ?_; rintro e w8 ⟨rfl, hb8⟩))
        go_ret
        exact ⟨rfl, below_size2 ABl.out hb8⟩
  · go_wp2_with (first
      | (go_at_call 16; refine (heavy_calls _ l _ ALV.out).mono ?_; rintro e w1 ⟨b, rfl, hb1, hhv⟩; cases b; (have AHV := Aside0.mk (hhv rfl); clear hhv); rotate_left; clear hhv)
      | (go_at_call 11; refine (awake_calls _).mono ?_; rintro e w8 ⟨rfl, hb8⟩)
      | (go_at_call 17; refine (new_calls _).mono ?_; rintro e w2 ⟨rfl, hN2, hb2⟩))
    · go_ret
      exact ⟨rfl, below_size2 hb1 hb8⟩
    clear hN2
    have hB0 := below_size2 hb1 hb2
    have hge := hB0.size
    have hN2 := hs_zero w2
    replace hB0 := hB0.alloc hB0.size (.cells #[.int .u32 0, .int .u32 0, .int .u32 0, .int .u32 0, .int .u32 0, .int .u32 0, .int .u32 0, .int .u32 0, .int .u64 0, .slice none 0 0] 39)
    generalize w2.heap.size = g0 at hN2 hge ⊢
    generalize w2.alloc _ = w3 at hN2 hB0 ⊢
    clear hb1 hb2
    go_loopw [5, 6, 7] (fun hv av i wr => ∃ k g : Nat, k ≤ N ∧ i = .int .i64 (k : Int) ∧ hv = .pointer (some ⟨g, 0, none⟩) ∧ HS wr wr g (wB (l.take k)) ((wB (l.take k)).length / 64) ∧ wr.ownsRow w.heap.size 5 1 av (wB (l.take k)).length (bs (wB (l.take k))) ∧ w.heap.size ≤ g ∧ Below w.heap.size w wr) (fun _ _ i _ => N - (intOf i).toNat)
    case atStart => exact ⟨0, g0, Nat.zero_le _, rfl, rfl, by rw [List.take_zero]; exact hN2, by rw [List.take_zero]; exact World.ownsRow_nil _ _ _ _, hge, hB0⟩
    case round =>
      clear hN2 hge hB0
      obtain ⟨k, g, hk, rfl, rfl, hH, hown, hge, hB⟩ := hrel
      obtain ⟨Aa, ca, rfl⟩ := (RV_own hown).slice
      have hM2 := wB_mono l k
      have hM2' : (wB (l.take k)).length ≤ 20000 := Nat.le_trans hM2 AHV.out.2.2
      by_cases hlt : k < N
      · have hkl : k < l.length := by rw [AN.out]; exact hlt
        obtain ⟨b, o, rfl, hc0, hc1, hrb, hd0, hd1⟩ := (ALV.out.below hB).at_ k hkl
        have hsucc := wB_succ l k hkl
        have hmono := wB_mono l (k + 1)
        have hlight := AHV.out.2.1 l[k] (List.getElem_mem hkl)
        obtain ⟨x, HX⟩ := hidden l[k]
        rw [HX.out] at hc0 hc1 hrb hd0 hd1 hsucc hlight
        obtain ⟨xv, xp, xd⟩ := x
        simp only at hc0 hc1 hrb hd0 hd1 hsucc
        obtain ⟨hx1, hx2⟩ := hlight
        simp only at hx1 hx2
        obtain ⟨M, hM⟩ : ∃ M, wB (l.take k) = M := ⟨_, rfl⟩
        obtain ⟨M1, hM1⟩ : ∃ M1, wB (l.take (k + 1)) = M1 := ⟨_, rfl⟩
        rw [hM] at hH hown hM2' hsucc ⊢
        rw [hM1] at hmono hsucc
        have hM3 : M1.length ≤ 20000 := Nat.le_trans hmono AHV.out.2.2
        obtain ⟨m, hm⟩ : ∃ m, M.length = m := ⟨_, rfl⟩
        rw [hm] at hH hown hM2' ⊢
        obtain ⟨F, hF⟩ : ∃ F, xp.flatten = F := ⟨_, rfl⟩
        have hFl : F.length ≤ 20000 := by rw [← hF]; exact hx2
        have hlen : (M ++ xp.flatten).length ≤ 70368744177664 := by rw [← hsucc]; omega
        have hargW : ∀ W : World, Below w.heap.size w W → W.cell? ⟨b, o + k * 2, none⟩ = some xv ∧ W.cell? ⟨b, o + k * 2 + 1, none⟩ = some (.int .i64 xd) ∧ RBs W xv xp := fun W hW => by
          obtain ⟨b', o', e, y0, y1, y2, _⟩ := (ALV.out.below hW).at_ k hkl
          rw [Option.some.injEq, Addr.mk.injEq] at e
          obtain ⟨rfl, rfl, -⟩ := e
          rw [HX.out] at y0 y1 y2
          exact ⟨y0, y1, y2⟩
        rw [hF] at hsucc
        have AF := Aside0.mk hF
        clear hF
        have AARG := Aside0.mk hargW
        have AH := Aside0.mk hH
        have AO := Aside0.mk hown
        have ARB := Aside0.mk hrb
        have AB := Aside0.mk hB
        have AS := Aside0.mk hsucc
        have AM1 := Aside0.mk hM1
        have ALN := Aside0.mk hlen
        have AX1 := Aside0.mk hx1
        have AX2 := Aside0.mk hx2
        have AMm := Aside0.mk hm
        clear hH hown hrb hB hsucc hM1 hM hlen hx1 hx2 hmono hM2 hargW hm hc1
        go_wp2_with (first
          | (go_at_call 12; refine (copied_at xv xp _ ARB.out AX1.out AX2.out).mono ?_; rintro e w1 ⟨v1, rfl, ⟨us, hul, ho1, hus⟩, hb1⟩; obtain ⟨A1, c1, rfl⟩ := (RV_own ho1).slice; have hB1 := AB.out.trans (hb1.mono AB.out.size); have hH1 := HS.now (HS.below AH.out hb1); have hRB1 : RBs w1 (.slice A1 xp.length c1) xp := ⟨us, RV_own ho1, fun q u y h1 h2 => RV_own (hus q u y h1 h2)⟩; have AH1 := Aside0.mk hH1; have ARB1 := Aside0.mk hRB1; have AO1 := Aside0.mk ho1; have AUS := Aside0.mk hus; have AB1 := Aside0.mk hB1; have ABW := Aside0.mk hb1; clear hH1 hRB1 ho1 hus hB1 hb1)
          | (go_at_call 18; refine (write_at g _ M (m / 64) xp _ AH1.out ARB1.out ALN.out (by have := AX1.out; omega)).mono ?_; rintro e w2 ⟨rfl, hS2⟩; rw [AF.out, ← AS.out] at hS2; have hg2 := HSP.grown hS2; have hB2 : Below w.heap.size w w2 := AB1.out.grown hg2 AB1.out.size (fun q e => by rw [Option.some.injEq] at e; omega); have hc2 := (AARG.out w2 hB2).1; have AS2 := Aside0.mk hS2; have AG2 := Aside0.mk hg2; have AB2 := Aside0.mk hB2; clear hS2 hg2 hB2)
          | (go_at_call 14; refine (all_calls xv xp _ (AARG.out w2 AB2.out).2.2 (by have := AX2.out; omega)).mono ?_; rintro e w3 ⟨v3, rfl, ho3, hb3⟩; rw [AF.out] at ho3; obtain ⟨A3, c3, rfl⟩ := (RV_own ho3).slice; have AO3 := Aside0.mk ho3; have AB3 := Aside0.mk hb3; clear ho3 hb3)
          | (at_builtin; refine wpList_append_sep (.tmp 34) (.tmp 40) 28 w.heap.size 5 (.int .u8 0) 1 1 Try.underlying28 info_u8 (own_below (own_past (own_below AO.out ABW.out) AG2.out (.inr (by obtain ⟨cs2, hcs2⟩ := AS2.out.block; exact own_apart2 (own_below AO.out ABW.out) AH1.out (by decide)))) AB3.out) (RV_own AO3.out) (bs_one _) (by omega) (Nat.le_trans AB2.out.size AB3.out.size) rfl rfl rfl rfl rfl (by decide) (by decide) ?_; intro v4 w4 ho4 hb4 hg4 hsep))
        obtain ⟨A4, c4, rfl⟩ := (RV_own ho4).slice
        have hl12 : w1.heap.size ≤ w3.heap.size := Nat.le_trans AG2.out.size AB3.out.size
        have hs01 : wr.heap.size ≤ w1.heap.size := ABW.out.size
        have hav := own_lt2 AO.out
        have hag : Value.ownBlock (.slice Aa m ca) ≠ some g := own_apart2 AO.out AH.out (by decide)
        have hS4 : HSP (fun r => w1.heap.size ≤ r) w4 w4 g M1 (M1.length / 64) := HSP.apart (HSP.now (HSP.below AS2.out AB3.out)) hg4 hag (fun r hr e => by have h9 := hav r e; omega)
        have hA4 : ∀ q, Value.ownBlock (.slice A4 (m + F.length) c4) = some q → q < wr.heap.size ∨ w1.heap.size ≤ q := fun q hq => by
          rcases hsep with h | h
          · exact .inl (hav q (h ▸ hq))
          · exact .inr (Nat.le_trans hl12 (h q hq))
        have hO1 := own_past (own_below (own_past AO1.out AG2.out (.inr (own_apart2 AO1.out AH1.out (by decide)))) AB3.out) hg4 (apart_two (fun q hq => own_ge AO1.out q hq) hav)
        have hUS : ∀ (q : Nat) (u : Value) (y : List UInt8), us[q]? = some u → xp[q]? = some y → ∃ ys, w4.ownsRow wr.heap.size 5 1 u y.length ys := fun q u y h1 h2 => by
          have h3 := AUS.out q u y h1 h2
          exact ⟨_, own_past (own_below (own_past h3 AG2.out (.inr (own_apart2 h3 AH1.out (by decide)))) AB3.out) hg4 (apart_two (fun q hq => own_ge h3 q hq) hav)⟩
        have hUL : ∀ (q : Nat) (u : Value) (y : List UInt8), us[q]? = some u → xp[q]? = some y → ∀ r, u.ownBlock = some r → r < w1.heap.size := fun q u y h1 h2 => own_lt2 (AUS.out q u y h1 h2)
        have hB4 := (AB2.out.trans (AB3.out.mono AB2.out.size)).trans hb4
        have hgs : g < wr.heap.size := by
          obtain ⟨Hx, Ax, cx, hBlk, _⟩ := AH.out
          exact blk_lt hBlk.1
        have hws : w.heap.size ≤ wr.heap.size := AB.out.size
        rw [← bs_append, ← AS.out] at ho4
        have hml : m + F.length = M1.length := by rw [AS.out, List.length_append, AMm.out]
        rw [hml] at ho4 hA4 ⊢
        obtain ⟨s0, hs0⟩ : ∃ s0, wr.heap.size = s0 := ⟨_, rfl⟩
        obtain ⟨s1, hs1⟩ : ∃ s1, w1.heap.size = s1 := ⟨_, rfl⟩
        rw [hs0] at hA4 hO1 hUS hgs hws hs01
        rw [hs1] at hA4 hUL hS4 hs01
        have AA4 := Aside0.mk hA4
        have AS4 := Aside0.mk hS4
        have AO4 := Aside0.mk ho4
        have AUL := Aside0.mk hUL
        have AUS4 := Aside0.mk hUS
        have AO14 := Aside0.mk hO1
        have AB4 := Aside0.mk hB4
        clear hA4 hS4 ho4 hUL hUS hO1 hB4 hsep hav hag hl12 hb4 hg4 hml hc2 hc0
        have hxl : xp.length ≤ 300 := AX1.out
        clear AO AH ARB AB AH1 ARB1 AO1 AUS AB1 ABW AS2 AG2 AB2 AO3 AB3 ALN AX1 AX2 AMm AF AS hs0 hs1
        go_loopw [9] (fun qv wz => ∃ q : Nat, q ≤ xp.length ∧ qv = .int .i64 (q : Int) ∧ Out s0 s1 w4 wz ∧ (∀ (p : Nat) (u : Value) (y : List UInt8), us[p]? = some u → xp[p]? = some y → ∃ ys, wz.ownsRow s0 5 1 u y.length ys) ∧ wz.ownsRow s0 28 1 (.slice A1 xp.length c1) xp.length us) (fun qv _ => xp.length - (intOf qv).toNat)
        case atStart => exact ⟨0, Nat.zero_le _, rfl, Out.refl _ _ _, AUS4.out, AO14.out⟩
        case round =>
          clear AUS4 AO14
          obtain ⟨q, hq, rfl, hOut, hUz, hOz⟩ := hrel
          by_cases hqlt : q < xp.length
          · obtain ⟨b', o', u, rfl, hu, hcell, _⟩ := RV.at_ (RV_own hOz) q hqlt
            have hxq : xp[q]? = some xp[q] := List.getElem?_eq_getElem hqlt
            obtain ⟨y, hy⟩ : ∃ y, xp[q] = y := ⟨_, rfl⟩
            rw [hy] at hxq
            obtain ⟨ys, hys⟩ := hUz q u y hu hxq
            have hbl := AUL.out q u y hu hxq
            obtain ⟨Au, cu, rfl⟩ := (RV_own hys).slice
            obtain ⟨w5, hrun, hOut5, hk1, hk2⟩ := clear_own hys hbl
            have AK1 := Aside0.mk hk1
            have AK2 := Aside0.mk hk2
            have AOz := Aside0.mk hOz
            have AUz := Aside0.mk hUz
            have AO5 := Aside0.mk (hOut.trans hOut5)
            clear hk1 hk2 hOz hUz hOut hOut5 hys hbl hy hxq hu
            go_wp2_with fail
            go_roundw
            case rel => exact ⟨q + 1, by omega, by go_num, AO5.out, fun p u y h1 h2 => by obtain ⟨zs, hz⟩ := AUz.out p u y h1 h2; exact AK1.out _ _ _ hz, AK2.out _ _ _ _ _ _ (by decide) AOz.out⟩
            case measure => simp [intOf]; omega
          · have hS5 := HSP.hs (HSP.out AS4.out hOut (.inl hgs) (fun r hr => hr))
            have hO5 := Out.own hOut AO4.out AA4.out
            have hB5 := AB4.out.trans (Out.below hOut hws)
            have hc5 := (AARG.out _ hB5).2.1
            have AH5 := Aside0.mk hS5
            have AO5 := Aside0.mk hO5
            have AB5 := Aside0.mk hB5
            clear hS5 hO5 hB5 hOut hUz hOz AA4 AS4 AO4 AUL AB4 hq
            obtain ⟨BD, hBD⟩ : ∃ B, bs (digest M1) = B := ⟨_, rfl⟩
            have eDD := fun w => arr_eq 9998 (digest M1) (digest M1) (digest_length _) (digest_length _) w
            rw [beq_self_eq_true, hBD] at eDD
            have hg32 := guard32
            have hwu : IntKind.u64.wrap (M1.length : Int) = (M1.length : Int) := wrap_u64n _ (by omega)
            have ABD := Aside0.mk hBD
            clear hBD
            obtain ⟨d, hd⟩ : ∃ d, Go.bits .and .i64 xd 3 = d := ⟨_, rfl⟩
            by_cases h1 : d = 1
            · subst h1
              have hge2 := hge
              go_wp2_with (first
                | (go_at_call 19; refine (sum_at ABD.out hM3 _ g AH5.out).mono ?_; rintro e w6 ⟨rfl, hb6⟩)
                | (go_at_call 15; refine (refsum_at ABD.out hM3 w6 _ _ _ (RV.below (RV_own AO5.out) hb6)).mono ?_; rintro e w7 ⟨rfl, hb7⟩; have hb67 := below_size2 (below_size2 hb6 ((Below.refl w6.heap.size w6).alloc (Nat.le_refl _) (.cells #[.slice A4 M1.length c4] 28))) hb7; have AHl := Aside0.mk (HS.now (HS.below AH5.out hb67)); have AOl := Aside0.mk (own_below AO5.out hb67); have ABl := Aside0.mk (AB5.out.trans (hb67.mono AB5.out.size)); clear hb6 hb7 hb67)
                | (go_at_call 21; refine (len_calls _ M1 _ _ AHl.out (by omega)).mono ?_; rintro e w9 ⟨rfl, hb9⟩))
              have hH9 := HS.now (HS.below AHl.out hb9)
              have hO9 := own_below AOl.out hb9
              have hB9 := ABl.out.trans (hb9.mono ABl.out.size)
              rw [← AM1.out] at hH9 hO9
              go_roundw
              case rel => exact ⟨k + 1, _, by omega, by go_num, rfl, hH9, by rw [AM1.out] at hO9 ⊢; exact hO9, hge2, hB9⟩
              case measure => simp [intOf]; omega
            by_cases h2 : d = 2
            · subst h2
              go_wp2_with (first
                | (go_at_call 20; refine (copy_calls g M1 _ _ AH5.out (by omega)).mono ?_; rintro e w6 ⟨rfl, hH6, hb6⟩; have hge2 := AB5.out.size; have AHl := Aside0.mk hH6; have AOl := Aside0.mk (own_below AO5.out hb6); have ABl := Aside0.mk (AB5.out.trans (hb6.mono AB5.out.size)); clear hH6 hb6)
                | (go_at_call 21; refine (len_calls _ M1 _ _ AHl.out (by omega)).mono ?_; rintro e w9 ⟨rfl, hb9⟩))
              have hH9 := HS.now (HS.below AHl.out hb9)
              have hO9 := own_below AOl.out hb9
              have hB9 := ABl.out.trans (hb9.mono ABl.out.size)
              rw [← AM1.out] at hH9 hO9
              go_roundw
              case rel => exact ⟨k + 1, _, by omega, by go_num, rfl, hH9, by rw [AM1.out] at hO9 ⊢; exact hO9, hge2, hB9⟩
              case measure => simp [intOf]; omega
            by_cases h3 : d = 3
            · subst h3
              have hge2 := hge
              have hcv := conv9
              go_wp2_with (first
                | (go_at_call 20; refine (copy_calls g M1 _ _ AH5.out (by omega)).mono ?_; rintro e w6 ⟨rfl, hH6, hb6⟩)
                | (go_at_call 18; refine (write_at _ _ M1 (M1.length / 64) [nine] _ (HS.now (HS.below (HS.now (HS.below hH6 ((Below.refl _ _).alloc (Nat.le_refl _) _))) ((Below.refl _ _).alloc (Nat.le_refl _) _))) (rbs_9 w6) (by simp [nine]; omega) (by simp)).mono ?_; rintro e w8 ⟨rfl, hS8⟩; have hg8 := hS8.grown; have hb8 := below_nine hb6 hg8; have AHl := Aside0.mk (HS.now (HS.below AH5.out hb8)); have AOl := Aside0.mk (own_below AO5.out hb8); have ABl := Aside0.mk (AB5.out.trans (hb8.mono AB5.out.size)); clear hH6 hb6 hS8 hg8 hb8)
                | (go_at_call 21; refine (len_calls _ M1 _ _ AHl.out (by omega)).mono ?_; rintro e w9 ⟨rfl, hb9⟩))
              have hH9 := HS.now (HS.below AHl.out hb9)
              have hO9 := own_below AOl.out hb9
              have hB9 := ABl.out.trans (hb9.mono ABl.out.size)
              rw [← AM1.out] at hH9 hO9
              go_roundw
              case rel => exact ⟨k + 1, _, by omega, by go_num, rfl, hH9, by rw [AM1.out] at hO9 ⊢; exact hO9, hge2, hB9⟩
              case measure => simp [intOf]; omega
            · have hge2 := hge
              have AHl := AH5
              have AOl := AO5
              have ABl := AB5
              go_wp2_with (go_at_call 21; refine (len_calls _ M1 _ _ AHl.out (by omega)).mono ?_; rintro e w9 ⟨rfl, hb9⟩)
              have hH9 := HS.now (HS.below AHl.out hb9)
              have hO9 := own_below AOl.out hb9
              have hB9 := ABl.out.trans (hb9.mono ABl.out.size)
              rw [← AM1.out] at hH9 hO9
              go_roundw
              case rel => exact ⟨k + 1, _, by omega, by go_num, rfl, hH9, by rw [AM1.out] at hO9 ⊢; exact hO9, hge2, hB9⟩
              case measure => simp [intOf]; omega
      · have hkN : N = k := by omega
        subst hkN
        have hWB : wB (l.take N) = wB l := by rw [← AN.out, List.take_length]
        rw [hWB] at hH hown hM2' ⊢
        obtain ⟨M, hM⟩ : ∃ M, wB l = M := ⟨_, rfl⟩
        rw [hM] at hH hown hM2' ⊢
        obtain ⟨BD, hBD⟩ : ∃ B, bs (digest M) = B := ⟨_, rfl⟩
        have eDD := fun w => arr_eq 9998 (digest M) (digest M) (digest_length _) (digest_length _) w
        rw [beq_self_eq_true, hBD] at eDD
        have hg32 := guard32
        have ABD := Aside0.mk hBD
        have AH5 := Aside0.mk hH
        have AO5 := Aside0.mk hown
        have AB5 := Aside0.mk hB
        clear hBD hH hown hB hM hWB hM2
        go_wp2_with (first
          | (go_at_call 19; refine (sum_at ABD.out hM2' _ g AH5.out).mono ?_; rintro e w6 ⟨rfl, hb6⟩)
          | (go_at_call 15; refine (refsum_at ABD.out hM2' w6 _ _ _ (RV.below (RV_own AO5.out) hb6)).mono ?_; rintro e w7 ⟨rfl, hb7⟩; have hb67 := below_size2 (below_size2 hb6 ((Below.refl w6.heap.size w6).alloc (Nat.le_refl _) (.cells #[.slice Aa M.length ca] 28))) hb7; have ABl := Aside0.mk (AB5.out.trans (hb67.mono AB5.out.size)); clear hb6 hb7 hb67)
          | (go_at_call 11; refine (awake_calls _).mono ?_; rintro e w8 ⟨rfl, hb8⟩))
        go_ret
        exact ⟨rfl, below_size2 ABl.out hb8⟩
end Go.Proofs.Ythhandkckbnafaa
