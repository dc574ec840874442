/-
  The document's pack: numbers, slices of bytes, texts, sums behind bytes.
-/
import Derived.Test.YtpgcepfecmkkaaaDoorPackA
import Derived.Deep.QuietTactic
import Derived.BigQuiet
import Derived.BigRegion
import Derived.Deep.DeepFit
import Derived.Deep.RegionWith
import Derived.Deep.RegionLaw
import Derived.Laws.CopyOwn
import Derived.Test.YtpgcepfecmkkaaaDoorC
set_option linter.unusedVariables false
set_option linter.unusedSimpArgs false
namespace Go.Proofs.YtpgcepfecmkkaaaDoor
open Go.RowKit
attribute [local go_sem] eq_bytes_nil
variable {kb : Nat}

/-! ### what is meant -/
/-- The number that bytes are, the highest first. -/
def val (l : List UInt8) : Nat := l.foldl (fun a c => 256 * a + c.toNat) 0
/-- The number with which bytes begin, and how many of them it has. -/
def first : List UInt8 → Option (Nat × Nat)
  | [] => none
  | k :: r => if 8 < k.toNat ∨ r.length < k.toNat ∨ (0 < k.toNat ∧ (r.headD 1).toNat = 0) then none else some (val (r.take k.toNat), k.toNat + 1)
/-- A Cut's block p: what was not cut off (it lies in block kb), and whether there was a fault. -/
def CutAt (t : TypeId) (w : World) (p kb : Nat) (xs : List UInt8) (bad : Bool) : Prop :=
  ∃ A c, w.heap[p]? = some (.cells #[.slice A xs.length c, .bool bad] t (0, 0)) ∧ RV w (.slice A xs.length c) xs.length 1 (bs xs) ∧ (xs ≠ [] → ∃ o, A = some ⟨kb, o, none⟩)

theorem CutAt.cells {t : TypeId} {w : World} {p : Nat} {xs : List UInt8} {bad : Bool} (h : CutAt t w p kb xs bad) :
    ∃ A c, w.cell? ⟨p, 0, none⟩ = some (.slice A xs.length c) ∧ w.cell? ⟨p, 1, none⟩ = some (.bool bad) ∧ RV w (.slice A xs.length c) xs.length 1 (bs xs) ∧ w.frozen? ⟨p, 0, none⟩ = false ∧ w.frozen? ⟨p, 1, none⟩ = false ∧ (xs ≠ [] → ∃ o, A = some ⟨kb, o, none⟩) := by
  obtain ⟨A, c, h1, h2, h3⟩ := h
  exact ⟨A, c, by rw [cell_of_row w p 0 _ t _ h1]; rfl, by rw [cell_of_row w p 1 _ t _ h1]; rfl, h2, frozen_of_row w p 0 _ t h1, frozen_of_row w p 1 _ t h1, h3⟩
end Go.Proofs.YtpgcepfecmkkaaaDoor
set_option linter.unusedVariables false
set_option linter.unusedSimpArgs false
namespace Go.Proofs.YtpgcepfecmkkaaaDoor
open Go.RowKit
attribute [local go_sem] eq_bytes_nil
variable {kb : Nat}

/-- What v is as a Cut: nobody's, or a block. -/
def CutV (w : World) (v : Value) (kb : Nat) (xs : List UInt8) (bad : Bool) : Prop :=
  (v = .pointer none ∧ xs = [] ∧ bad = true) ∨ ∃ p, v = .pointer (some ⟨p, 0, none⟩) ∧ CutAt 70 w p kb xs bad
/-! ### a number -/
/-! ### a blob -/
theorem CutV.below {w w' : World} {v : Value} {xs : List UInt8} {bad : Bool} (h : CutV w v kb xs bad) (hb : Below w.heap.size w w') : CutV w' v kb xs bad := by
  rcases h with h | ⟨p, rfl, A, c, h1, h2, h3⟩
  · exact .inl h
  · exact .inr ⟨p, rfl, A, c, by rw [hb.block p (Array.getElem?_eq_some_iff.1 h1).1]; exact h1, h2.below hb, h3⟩
end Go.Proofs.YtpgcepfecmkkaaaDoor
set_option linter.unusedVariables false
set_option linter.unusedSimpArgs false
namespace Go.Proofs.YtpgcepfecmkkaaaDoor
open Go.RowKit
attribute [local go_sem] eq_bytes_nil
variable {kb : Nat}
end Go.Proofs.YtpgcepfecmkkaaaDoor
set_option linter.unusedVariables false
set_option linter.unusedSimpArgs false
namespace Go.Proofs.YtpgcepfecmkkaaaDoor
open Go.RowKit
attribute [local go_sem] eq_bytes_nil
variable {kb : Nat}

end Go.Proofs.YtpgcepfecmkkaaaDoor
set_option linter.unusedVariables false
set_option linter.unusedSimpArgs false
namespace Go.Proofs.YtpgcepfecmkkaaaDoor

theorem bitLenAux_le_iff (f : Nat) : ∀ x k, x < 2 ^ f → (Lib.bitLenAux f x ≤ k ↔ x < 2 ^ k) := by
  induction f with
  | zero => intro x k hx; have : x = 0 := by simpa using hx
            subst this; simp [Lib.bitLenAux]; exact Nat.two_pow_pos k
  | succ f ih =>
    intro x k hx
    simp only [Lib.bitLenAux]
    by_cases h0 : x = 0
    · subst h0; simp; exact Nat.two_pow_pos k
    · rw [if_neg h0]
      cases k with
      | zero => simp; omega
      | succ k =>
        have := ih (x / 2) k (by rw [Nat.pow_succ] at hx; omega)
        rw [Nat.pow_succ]
        constructor
        · intro h; have := this.1 (by omega); omega
        · intro h; have := this.2 (by omega); omega
theorem nb_le_iff (x m : Nat) (hx : x < 18446744073709551616) : nb x ≤ m ↔ x < 256 ^ m := by
  have h := bitLenAux_le_iff 64 x (8 * m) (by simpa using hx)
  have e : (256 : Nat) ^ m = 2 ^ (8 * m) := by rw [Nat.pow_mul]
  rw [e, ← h]
  unfold nb Lib.bitLen
  omega
theorem nb_zero : nb 0 = 0 := rfl
theorem nb_div (x : Nat) (hx : x < 18446744073709551616) (h0 : 0 < x) : nb x = nb (x / 256) + 1 := by
  have h1 : ∀ m, nb x ≤ m + 1 ↔ nb (x / 256) ≤ m := by
    intro m
    rw [nb_le_iff x _ hx, nb_le_iff _ _ (by omega), Nat.pow_succ]
    omega
  have h2 : ¬ nb x ≤ 0 := by rw [nb_le_iff x 0 hx]; simp; omega
  have h3 := (h1 (nb x - 1)).1 (by omega)
  have h4 := (h1 (nb (x / 256))).2 (Nat.le_refl _)
  omega
/-! ### the order -/
/-! ### what is read is what was written -/
end Go.Proofs.YtpgcepfecmkkaaaDoor
set_option linter.unusedVariables false
set_option linter.unusedSimpArgs false
namespace Go.Proofs.YtpgcepfecmkkaaaDoor
open Go.RowKit
/-- The lowest j bytes, the lowest first. -/
def le (x j : Nat) : List UInt8 := (List.range j).map fun i => UInt8.ofNat (x / 256 ^ i)
theorem le_length (x j : Nat) : (le x j).length = j := by simp [le]
theorem le_succ (x j : Nat) : le x (j + 1) = le x j ++ [UInt8.ofNat (x / 256 ^ j)] := by simp [le, List.range_succ]
theorem rem_val (y : Nat) : Value.int .u8 ((y : Int) % 256) = .int .u8 ((UInt8.ofNat y).toNat : Int) := by
  have e : (UInt8.ofNat y).toNat = y % 256 := UInt8.toNat_ofNat'
  rw [e]; simp
theorem own_full {base : Nat} {e : TypeId} {size : Nat} (w : World) (cur : List Value) (n : Nat) (hb : base ≤ w.heap.size) (hm : n ≤ maxLen) (hs : cur.length = n * size) : (w.alloc (.cells cur.toArray e)).ownsRow base e size (.slice (some ⟨w.heap.size, 0, none⟩) n n) n cur :=
  ⟨hs, .inr ⟨w.heap.size, n, cur.toArray, rfl, hb, heap_alloc_new w _, Nat.le_refl _, hm, by simpa using hs, by rw [← hs]; simp⟩⟩
set_option maxHeartbeats 1000000 in
theorem number_calls (x : Nat) (hx : x < 18446744073709551616) (w : World) : Calls Tryd.prog 53 #[.int .u64 (Int.ofNat x)] w fun e w' => ∃ v', e = .returned v' ∧ w'.ownsRow w.heap.size 5 1 v' (encN x).length (bs (encN x)) ∧ Below w.heap.size w w' := by
  have hnb := nb_le x
  go_enter Tryd.func53, Tryd.ntmps53
  go_wp2_with fail
  go_loopw [0, 3] (fun z lo wr => ∃ j : Nat, Hid (j + nb (x / 256 ^ j) = nb x) ∧ z = .int .u64 ((x / 256 ^ j : Nat) : Int) ∧ wr.ownsRow w.heap.size 5 1 lo (le x j).length (bs (le x j)) ∧ Below w.heap.size w wr) (fun z _ _ => (intOf z).toNat)
  case atStart => exact ⟨0, by show _ = _; simp, by simp, World.ownsRow_nil _ _ _ _, Below.refl _ _⟩
  case round =>
    obtain ⟨j, hj, rfl, hown, hb⟩ := hrel
    have hzx : x / 256 ^ j ≤ x := Nat.div_le_self _ _
    have hz := hb.size
    have hjn : j ≤ nb x := by have := hj.out; omega
    by_cases h0 : 0 < x / 256 ^ j
    · have hd := nb_div (x / 256 ^ j) (by omega) h0
      have hdd : x / 256 ^ (j + 1) = x / 256 ^ j / 256 := by rw [Nat.pow_succ, Nat.div_div_eq_div_mul]
      have hll := le_succ x j
      have HL := hid hll
      have HD := hid hdd
      clear hdd hll
      have hlen := le_length x j
      obtain ⟨z, hzz⟩ := hidden (x / 256 ^ j)
      rw [hzz.out] at h0 hzx hj hd HD HL ⊢
      have HD2 := hid hd
      clear hd
      rw [hlen] at hown
      clear hlen
      go_wp2_with (at_builtin; refine wpList_append_one (.tmp 8) (.tmp 12) 36 w.heap.size 5 (.int .u8 0) 1 Tryd.underlying36 info_u8 hown _ rfl (by omega) (by omega) rfl rfl rfl rfl rfl (by decide) ?_; intro v1 w1 hown1 hb1)
      go_roundw
      case rel =>
        refine ⟨j + 1, ?_, ?_, own_len hown1 (by rw [le_length]) (by rw [rem_val, bs_snoc, HL.out]), hb.trans hb1⟩
        · show _ = _
          have := hj.out; have := HD2.out; rw [HD.out]; omega
        · rw [HD.out]; go_num
      case measure => simp [intOf]; omega
    · obtain ⟨z, hzz⟩ := hidden (x / 256 ^ j)
      rw [hzz.out] at h0 hj hzx ⊢
      have hz0 : z = 0 := by omega
      have hj2 := hj.out
      rw [hz0, nb_zero] at hj2
      obtain rfl : j = nb x := by omega
      clear hj2 hj hz0
      rename World => wq
      have hrl := RV_own hown
      rw [le_length] at hrl hown
      obtain ⟨LA, LC, rfl⟩ := hrl.slice
      obtain ⟨kk, hkk⟩ : ∃ kk, nb x = kk := ⟨_, rfl⟩
      rw [hkk] at hnb hrl ⊢
      have hek : encN x = UInt8.ofNat kk :: be x kk := by unfold encN; rw [hkk]
      have HK := hid hek
      clear hek hkk hown
      have hO := own_full (base := wq.heap.size) (e := 5) (size := 1) wq [.int .u8 (kk : Int)] 1 (Nat.le_refl _) (by decide) rfl
      have hra := hrl.alloc (.cells #[.int .u8 (kk : Int)] 5)
      have hbz : Below w.heap.size w (wq.alloc (.cells #[.int .u8 (kk : Int)] 5)) := hb.alloc hz _
      have hO2 : (wq.alloc (.cells #[.int .u8 (kk : Int)] 5)).ownsRow wq.heap.size 5 1 (.slice (some ⟨wq.heap.size, 0, none⟩) 1 1) ([UInt8.ofNat kk] : List UInt8).length (bs [UInt8.ofNat kk]) := own_len hO rfl (by simp only [bs, List.map_cons, List.map_nil]; rw [← u8_val kk (by omega)])
      clear hO
      go_wp2_with fail
      go_loopw [4, 5] (fun o i wr2 => ∃ j : Nat, j ≤ kk ∧ i = .int .i64 (Int.ofNat j) ∧ wr2.ownsRow wq.heap.size 5 1 o (UInt8.ofNat kk :: (be x kk).take (kk - j)).length (bs (UInt8.ofNat kk :: (be x kk).take (kk - j))) ∧ Below w.heap.size w wr2 ∧ Below wq.heap.size wq wr2) (fun _ i _ => (intOf i).toNat)
      case atStart => exact ⟨kk, Nat.le_refl _, rfl, by simpa using hO2, hbz, (Below.refl _ _).alloc (Nat.le_refl _) _⟩
      case round =>
        clear hO2 hra hbz
        obtain ⟨j, hj, rfl, hown4, hb4, hb5⟩ := hrel
        have hlen : (UInt8.ofNat kk :: (be x kk).take (kk - j)).length = kk - j + 1 := by simp [be_length]
        by_cases hj0 : 0 < j
        · obtain ⟨j, rfl⟩ : ∃ i, j = i + 1 := ⟨j - 1, by omega⟩
          have hrl2 := hrl.below hb5
          obtain ⟨b, o, u, rfl, hu, hcell, hbw⟩ := hrl2.at_ j (by omega)
          have hu2 : u = .int .u8 ((UInt8.ofNat (x / 256 ^ j)).toNat : Int) := by
            rw [bs_at _ j (by rw [le_length]; omega)] at hu
            simp [le] at hu
            rw [← hu]; simp
          obtain ⟨cb, HU⟩ := hidden (UInt8.ofNat (x / 256 ^ j))
          rw [HU.out] at hu2
          subst hu2
          clear hu
          rw [hlen] at hown4
          clear hlen
          have hz4 := hb5.size
          go_wp2_with (at_builtin; refine wpList_append_one (.tmp 26) (.tmp 32) 36 wq.heap.size 5 (.int .u8 0) 1 Tryd.underlying36 info_u8 hown4 _ rfl (by omega) (by omega) rfl rfl rfl rfl rfl (by decide) ?_; intro v3 w3 hown5 hb6)
          go_roundw
          case rel =>
            refine ⟨j, by omega, by go_num, own_len hown5 ?_ ?_, hb4.trans (hb6.mono hz), hb5.trans hb6⟩
            · rw [be_take x kk j (by omega)]; simp [be_length]
              try omega
            · rw [bs_snoc, be_take x kk j (by omega), HU.out]; rfl
          case measure => simp [intOf]
        · obtain rfl : j = 0 := by omega
          go_wp2_with fail
          go_ret
          refine ⟨_, rfl, ?_, hb4⟩
          rw [HK.out]
          exact own_base (own_len hown4 (by simp [be_length]) (by rw [List.take_of_length_le (by rw [be_length]; omega)])) hz
end Go.Proofs.YtpgcepfecmkkaaaDoor
set_option linter.unusedVariables false
set_option linter.unusedSimpArgs false
namespace Go.Proofs.YtpgcepfecmkkaaaDoor
open Go.RowKit
set_option maxHeartbeats 1000000 in
theorem rnums_calls (v lv : Value) (xs : List UInt8) (l : List Nat) (w : World) (hv : RV w v xs.length 1 (bs xs)) (hlv : RV w lv l.length 1 (nums64 l)) (h64 : ∀ x ∈ l, x < 18446744073709551616) (hl : xs.length + (encNs l).length ≤ 140737488355328) :
    Calls Tryd.prog 38 #[v, lv] w fun e w' => ∃ v', e = .returned v' ∧ w'.ownsRow w.heap.size 5 1 v' (xs ++ encNs l).length (bs (xs ++ encNs l)) ∧ Below w.heap.size w w' := by
  have hmax := hlv.max
  obtain ⟨A, c, rfl⟩ := hlv.slice
  have hO := World.ownsRow_made (base := w.heap.size) (e := 5) (size := 1) w #[] 0 (Nat.le_refl _) (by decide) rfl
  have hr := hv.alloc (.cells #[] 5)
  go_enter Tryd.func38, Tryd.ntmps38
  go_wp2_with (at_builtin; refine wpList_append_rv (.tmp 7) (.tmp 8) 36 w.heap.size 5 (.int .u8 0) 1 1 Tryd.underlying36 info_u8 hO hr (bs_one xs) (by omega) (by simp) rfl rfl rfl rfl rfl (by decide) (by decide) ?_; intro v1 w1 hown1 hb1 hg1)
  have hown2 : w1.ownsRow w.heap.size 5 1 v1 xs.length (bs xs) := by simpa using hown1
  have hb2 : Below w.heap.size w w1 := ((Below.refl _ _).alloc (Nat.le_refl _) _).trans hb1
  clear hO hr hown1 hb1 hg1
  go_wp2_with fail
  go_loopw [5, 6] (fun v i wr => ∃ k : Nat, k ≤ l.length ∧ i = .int .i64 k ∧ wr.ownsRow w.heap.size 5 1 v (xs ++ encNs (l.take k)).length (bs (xs ++ encNs (l.take k))) ∧ Below w.heap.size w wr) (fun _ i _ => l.length - (intOf i).toNat)
  case atStart => exact ⟨0, Nat.zero_le _, rfl, by simpa [encNs] using hown2, hb2⟩
  case round =>
    clear hown2 hb2
    obtain ⟨k, hk, rfl, hown, hb⟩ := hrel
    by_cases hlt : k < l.length
    · obtain ⟨b, o, u, rfl, hu, hcell, hbw⟩ := hlv.at_ k hlt
      have hx := h64 l[k] (List.getElem_mem hlt)
      obtain rfl : .int .u64 (Int.ofNat l[k]) = u := by simpa [nums64, hlt] using hu
      have hcell2 : wr.cell? ⟨b, o + k, none⟩ = some (.int .u64 (Int.ofNat l[k])) := (hb.cell hbw).trans hcell
      have hsucc : encNs (l.take (k + 1)) = encNs (l.take k) ++ encN l[k] := flat_succ encN l k hlt
      have hmono : (encNs (l.take (k + 1))).length ≤ (encNs l).length := flat_mono encN l (k + 1)
      obtain ⟨x, HX⟩ := hidden l[k]
      rw [HX.out] at hcell2 hsucc hx
      have hlx : (xs ++ encNs (l.take k)).length + (encN x).length ≤ 140737488355328 := by
        rw [hsucc] at hmono; simp at hmono ⊢; omega
      have HS := hid hsucc
      clear hsucc hmono hcell hu
      have hz := hb.size
      go_wp2_with (first | (go_at_call 53; refine (number_calls x hx _).mono ?_; rintro e w2 ⟨v2, rfl, ho2, hb2⟩; have hown2 := own_below hown hb2; have hz2 := hb2.size) | (at_builtin; refine wpList_append_rv (.tmp 16) (.tmp 21) 36 w.heap.size 5 (.int .u8 0) 1 1 Tryd.underlying36 info_u8 hown2 (RV_own ho2) (bs_one _) (by omega) (by omega) rfl rfl rfl rfl rfl (by decide) (by decide) ?_; intro v3 w3 ho3 hb3 hg3))
      go_roundw
      case rel =>
        refine ⟨k + 1, by omega, by go_num, own_len ho3 ?_ ?_, (below_then hb hz hb2).trans hb3⟩
        · rw [HS.out]; simp; omega
        · rw [HS.out]; simp [bs_append]
      case measure => simp [intOf]; omega
    · go_wp2
      go_ret
      exact ⟨_, rfl, by simpa [show k = l.length by omega] using hown, hb⟩
set_option maxHeartbeats 1000000 in
theorem rblobs_calls (v lv : Value) (xs : List UInt8) (l : List (List UInt8)) (w : World) (hv : RV w v xs.length 1 (bs xs)) (hlv : RBs w lv l) (hl : (xs ++ encBs l).length ≤ 140737488355328) :
    Calls Tryd.prog 54 #[v, lv] w fun e w' => ∃ v', e = .returned v' ∧ w'.ownsRow w.heap.size 5 1 v' (xs ++ encBs l).length (bs (xs ++ encBs l)) ∧ Below w.heap.size w w' := by
  obtain ⟨vs, hvs, hel⟩ := hlv
  obtain ⟨A, c, rfl⟩ := hvs.slice
  have hmax := hvs.max
  have hO := World.ownsRow_made (base := w.heap.size) (e := 5) (size := 1) w #[] 0 (Nat.le_refl _) (by decide) rfl
  have hr := hv.alloc (.cells #[] 5)
  have hl1 : xs.length ≤ 140737488355328 := by simp at hl; omega
  go_enter Tryd.func54, Tryd.ntmps54
  go_wp2_with (at_builtin; refine wpList_append_rv (.tmp 7) (.tmp 8) 36 w.heap.size 5 (.int .u8 0) 1 1 Tryd.underlying36 info_u8 hO hr (bs_one xs) (by omega) (by simp) rfl rfl rfl rfl rfl (by decide) (by decide) ?_; intro v1 w1 hown1 hb1 hg1)
  have hown2 : w1.ownsRow w.heap.size 5 1 v1 xs.length (bs xs) := by simpa using hown1
  have hb2 : Below w.heap.size w w1 := ((Below.refl _ _).alloc (Nat.le_refl _) _).trans hb1
  clear hO hr hown1 hb1 hg1
  go_wp2_with fail
  go_loopw [5, 6] (fun v i wr => ∃ k : Nat, k ≤ l.length ∧ i = .int .i64 k ∧ wr.ownsRow w.heap.size 5 1 v (xs ++ encBs (l.take k)).length (bs (xs ++ encBs (l.take k))) ∧ Below w.heap.size w wr) (fun _ i _ => l.length - (intOf i).toNat)
  case atStart => exact ⟨0, Nat.zero_le _, rfl, by simpa [encBs] using hown2, hb2⟩
  case round =>
    clear hown2 hb2
    obtain ⟨k, hk, rfl, hown, hb⟩ := hrel
    by_cases hlt : k < l.length
    · obtain ⟨b, o, u, rfl, hu, hcell, hbw⟩ := hvs.at_ k hlt
      have hux := hel k u l[k] hu (List.getElem?_eq_getElem hlt)
      have hcell2 : wr.cell? ⟨b, o + k, none⟩ = some u := (hb.cell hbw).trans hcell
      have hsucc : encBs (l.take (k + 1)) = encBs (l.take k) ++ encB l[k] := flat_succ encB l k hlt
      have hmono : (encBs (l.take (k + 1))).length ≤ (encBs l).length := flat_mono encB l (k + 1)
      obtain ⟨x, HX⟩ := hidden l[k]
      rw [HX.out] at hux hsucc
      obtain ⟨A', c', rfl⟩ := hux.slice
      have hxm := hux.max
      have hlx : (xs ++ encBs (l.take k)).length + (encN x.length).length + x.length ≤ 140737488355328 := by
        rw [hsucc] at hmono; simp [encB] at hmono hl ⊢; omega
      have HS := hid hsucc
      clear hsucc hmono hcell hu
      have hz := hb.size
      go_wp2_with (first | (go_at_call 53; refine (number_calls x.length (by omega) _).mono ?_; rintro e w2 ⟨v2, rfl, ho2, hb2⟩; have hown2 := own_below hown hb2; have hz2 := hb2.size; have hb20 := below_then hb hz hb2) | (at_builtin; refine wpList_append_rv (.tmp 16) (.tmp 23) 36 w.heap.size 5 (.int .u8 0) 1 1 Tryd.underlying36 info_u8 hown2 (RV_own ho2) (bs_one _) (by omega) (by omega) rfl rfl rfl rfl rfl (by decide) (by decide) ?_; intro v3 w3 ho3 hb3 hg3; have hb30 := hb20.trans hb3; have hz3 := hb30.size; have hcell3 : w3.cell? ⟨b, o + k, none⟩ = some (.slice A' x.length c') := (hb30.cell hbw).trans ((hb.cell hbw).symm.trans hcell2); have hux3 := hux.below hb30) | (at_builtin; refine wpList_append_rv (.tmp 25) (.tmp 29) 36 w.heap.size 5 (.int .u8 0) 1 1 Tryd.underlying36 info_u8 ho3 hux3 (bs_one _) (by omega) (by omega) rfl rfl rfl rfl rfl (by decide) (by decide) ?_; intro v4 w4 ho4 hb4 hg4))
      go_roundw
      case rel =>
        refine ⟨k + 1, by omega, by go_num, own_len ho4 ?_ ?_, hb30.trans hb4⟩
        · rw [HS.out]; simp [encB]; omega
        · rw [HS.out]; simp [bs_append, encB]
      case measure => simp [intOf]; omega
    · go_wp2
      go_ret
      exact ⟨_, rfl, by simpa [show k = l.length by omega] using hown, hb⟩
theorem rblob1_calls (v : Value) (xs D : List UInt8) (g : Nat) (sv : Value) (W : World) (hl : (xs ++ encB D).length ≤ 140737488355328) (hx : RV W v xs.length 1 (bs xs)) (hv : RV W sv D.length 1 (bs D)) (hc : W.cell? ⟨g, 0, none⟩ = some sv) :
    Calls Tryd.prog 54 #[v, .slice (some ⟨g, 0, none⟩) 1 1] W fun e w' => ∃ v', e = .returned v' ∧ w'.ownsRow W.heap.size 5 1 v' (xs ++ encB D).length (bs (xs ++ encB D)) ∧ Below W.heap.size W w' := by
  have h1 : RV W (.slice (some ⟨g, 0, none⟩) 1 1) 1 1 [sv] := ⟨rfl, _, 1, rfl, Nat.le_refl _, by decide, fun _ => ⟨g, 0, rfl, fun j u hj => by
    match j, hj with
    | 0, hj => simp at hj; subst hj; exact hc⟩⟩
  refine (rblobs_calls _ _ xs [D] W hx ⟨[sv], h1, fun i v x hv' hx => ?_⟩ (by simpa [encBs] using hl)).mono fun e w' hh => ?_
  · match i, hv', hx with
    | 0, hv', hx => simp at hv' hx; subst hv'; subst hx; exact hv
  · obtain ⟨v, rfl, ho, hb⟩ := hh
    exact ⟨v, rfl, by simpa [encBs] using ho, hb⟩
set_option maxHeartbeats 1000000 in
theorem rtexts_calls (v lv : Value) (xs : List UInt8) (l : List ByteArray) (w : World) (hv : RV w v xs.length 1 (bs xs)) (hvs : RV w lv l.length 1 (ss l)) (hl : (xs ++ encTs l).length ≤ 140737488355328) :
    Calls Tryd.prog 39 #[v, lv] w fun e w' => ∃ v', e = .returned v' ∧ w'.ownsRow w.heap.size 5 1 v' (xs ++ encTs l).length (bs (xs ++ encTs l)) ∧ Below w.heap.size w w' := by
  obtain ⟨A, c, rfl⟩ := hvs.slice
  have hmax := hvs.max
  have hO := World.ownsRow_made (base := w.heap.size) (e := 5) (size := 1) w #[] 0 (Nat.le_refl _) (by decide) rfl
  have hr := hv.alloc (.cells #[] 5)
  have hl1 : xs.length ≤ 140737488355328 := by simp at hl; omega
  go_enter Tryd.func39, Tryd.ntmps39
  go_wp2_with (at_builtin; refine wpList_append_rv (.tmp 7) (.tmp 8) 36 w.heap.size 5 (.int .u8 0) 1 1 Tryd.underlying36 info_u8 hO hr (bs_one xs) (by omega) (by simp) rfl rfl rfl rfl rfl (by decide) (by decide) ?_; intro v1 w1 hown1 hb1 hg1)
  have hown2 : w1.ownsRow w.heap.size 5 1 v1 xs.length (bs xs) := by simpa using hown1
  have hb2 : Below w.heap.size w w1 := ((Below.refl _ _).alloc (Nat.le_refl _) _).trans hb1
  clear hO hr hown1 hb1 hg1
  go_wp2_with fail
  go_loopw [5, 6] (fun v i wr => ∃ k : Nat, k ≤ l.length ∧ i = .int .i64 k ∧ wr.ownsRow w.heap.size 5 1 v (xs ++ encTs (l.take k)).length (bs (xs ++ encTs (l.take k))) ∧ Below w.heap.size w wr) (fun _ i _ => l.length - (intOf i).toNat)
  case atStart => exact ⟨0, Nat.zero_le _, rfl, by simpa [encTs] using hown2, hb2⟩
  case round =>
    clear hown2 hb2
    obtain ⟨k, hk, rfl, hown, hb⟩ := hrel
    by_cases hlt : k < l.length
    · obtain ⟨b, o, u, rfl, hu, hcell, hbw⟩ := hvs.at_ k hlt
      obtain rfl : .string l[k] = u := by rw [ss_at l k hlt] at hu; exact Option.some.inj hu
      have hcell2 : wr.cell? ⟨b, o + k, none⟩ = some (.string l[k]) := (hb.cell hbw).trans hcell
      have hsucc : encTs (l.take (k + 1)) = encTs (l.take k) ++ encB (tb l[k]) := flat_succ (fun s => encB (tb s)) l k hlt
      have hmono : (encTs (l.take (k + 1))).length ≤ (encTs l).length := flat_mono (fun s => encB (tb s)) l (k + 1)
      obtain ⟨x, HX⟩ := hidden l[k]
      rw [HX.out] at hcell2 hsucc
      have hxs := tb_length x
      have hlx : (xs ++ encTs (l.take k)).length + (encB (tb x)).length ≤ 140737488355328 := by
        rw [hsucc] at hmono; simp at hmono hl ⊢; omega
      have HS := hid hsucc
      clear hsucc hmono hcell hu
      have hz := hb.size
      obtain ⟨A5, c5, w5, hcv5, hr5, hb5⟩ := str_bytes (P := Tryd.prog) wr 9 36 5 x (by rw [← hxs]; simp [encB] at hlx; omega) Tryd.underlying9 Tryd.underlying36 Tryd.underlying5
      have hown5 := own_below hown hb5
      have hb50 := below_then hb hz hb5
      have hlx2 : ((xs ++ encTs (l.take k)) ++ encB (tb x)).length ≤ 140737488355328 := by rw [List.length_append]; exact hlx
      have hHX2 := hid hlx2
      clear hlx2
      have hr6 : RV w5 (.slice A5 x.size c5) (tb x).length 1 (bs (tb x)) := by rw [hxs]; exact hr5
      have hz5 := hb50.size
      go_wp2_with (go_at_call 54; refine (rblob1_calls _ (xs ++ encTs (l.take k)) (tb x) _ _ _ hHX2.out ((RV_own hown5).alloc _) (hr6.alloc _) (by go_simp)).mono ?_; rintro e w6 ⟨v6, rfl, ho6, hb6⟩)
      go_roundw
      case rel =>
        refine ⟨k + 1, by omega, by go_num, own_base (own_len ho6 ?_ ?_) (by simp; omega), (hb50.alloc hz5 _).trans (hb6.mono (by simp; omega))⟩
        · rw [HS.out]; simp
        · rw [HS.out]; simp [bs_append]
      case measure => simp [intOf]; omega
    · go_wp2
      go_ret
      exact ⟨_, rfl, by simpa [show k = l.length by omega] using hown, hb⟩
end Go.Proofs.YtpgcepfecmkkaaaDoor
