/-
  The walks of the layer pack: what is written.
-/
import Derived.Test.YtpgcepfecmkkaaaDoorProg
import Derived.Test.YtpgcepfecmkkaaaDoorK
import Derived.Test.YtpgcepfecmkkaaaDoorShelf
import Derived.Outline
set_option linter.unusedVariables false
namespace Go.Proofs.YtpgcepfecmkkaaaDoor
open Go.RowKit

theorem eq_bytes_nil (w : World) (a : Option Addr) (n c : Nat) : Sem.run Tryd.prog (binOp BinOp.eql 36 (Value.slice a n c) (Value.slice none 0 0)) w = Result.ok (Value.bool a.isNone) w := Lib.run_eql_slice_nil w 36 5 a n c 0 0 Tryd.underlying36
attribute [local go_sem] eq_bytes_nil
theorem info_u8 : (Tryd.prog.info? 5).map (fun i => (i.zero, i.size, i.bytes)) = some (some (.int .u8 0), 1, 1) := by kernel_rfl

theorem clone_bytes (v : Value) (xs : List UInt8) (w : World) (hv : RV w v xs.length 1 (bs xs)) (hl : xs.length ≤ 140737488355328) :
    Calls Tryd.prog 42 #[v] w fun e w' => ∃ v', e = .returned v' ∧ w'.ownsRow w.heap.size 5 1 v' xs.length (bs xs) ∧ Below w.heap.size w w' := by
  obtain ⟨_, A, c, rfl, hc1, hc2, hc3⟩ := id hv
  cases A with
  | none =>
    have hx : xs = [] := by
      cases xs with
      | nil => rfl
      | cons x r => obtain ⟨b, o, h, _⟩ := hc3 (by simp [bs]); exact absurd h (by simp)
    subst hx
    go_enter Tryd.func42, Tryd.ntmps42
    go_wp2
    go_ret
    exact ⟨_, rfl, World.ownsRow_nil _ _ _ _, Below.refl _ _⟩
  | some ad =>
    have hO := World.ownsRow_made (base := w.heap.size) (e := 5) (size := 1) w #[] 0 (Nat.le_refl _) (by decide) rfl
    have hr := hv.alloc (.cells #[] 5)
    go_enter Tryd.func42, Tryd.ntmps42
    go_wp2_with (at_builtin; refine wpList_append_rv (.tmp 5) (.tmp 6) 36 w.heap.size 5 (.int .u8 0) 1 1 Tryd.underlying36 info_u8 hO hr (bs_one xs) (by omega) (by simp) rfl rfl rfl rfl rfl (by decide) (by decide) ?_; intro v1 w1 hown hb hg)
    go_ret
    exact ⟨_, rfl, by simpa using hown, ((Below.refl _ _).alloc (Nat.le_refl _) _).trans hb⟩

/-! ### numbers -/
def nb (x : Nat) : Nat := (Lib.bitLen x + 7) / 8
/-- The lowest k bytes of x, the highest first. -/
def be (x : Nat) : Nat → List UInt8
  | 0 => []
  | k + 1 => UInt8.ofNat (x / 256 ^ k) :: be x k
def encN (x : Nat) : List UInt8 := UInt8.ofNat (nb x) :: be x (nb x)
def encNs (l : List Nat) : List UInt8 := l.flatMap encN
theorem be_length (x k : Nat) : (be x k).length = k := by induction k with | zero => rfl | succ k ih => simp [be, ih]

theorem bitLenAux_le (f x : Nat) : Lib.bitLenAux f x ≤ f := by
  induction f generalizing x with
  | zero => simp [Lib.bitLenAux]
  | succ f ih => simp only [Lib.bitLenAux]; split; omega; have := ih (x / 2); omega
theorem nb_le (x : Nat) : nb x ≤ 8 := by have := bitLenAux_le 64 x; unfold nb Lib.bitLen; omega
theorem bitLen_le (x : Nat) : Lib.bitLen x ≤ 64 := bitLenAux_le 64 x
theorem be_take (x kk j : Nat) (h : j < kk) : (be x kk).take (kk - j) = (be x kk).take (kk - (j + 1)) ++ [UInt8.ofNat (x / 256 ^ j)] := by
  induction kk with
  | zero => omega
  | succ kk ih =>
    by_cases e : j = kk
    · subst e; simp [be, show j + 1 - j = 1 by omega]
    · have := ih (by omega)
      rw [show kk + 1 - j = (kk - j) + 1 by omega, show kk + 1 - (j + 1) = (kk - (j + 1)) + 1 by omega, be, List.take_succ_cons, this, List.take_succ_cons]
      rfl
theorem encN_length (x : Nat) : (encN x).length = nb x + 1 := by simp [encN, be_length]
theorem encNs_le (l : List Nat) : (encNs l).length ≤ 9 * l.length := by
  induction l with
  | nil => simp [encNs]
  | cons x r ih => have := nb_le x; have e : encNs (x :: r) = encN x ++ encNs r := rfl; rw [e, List.length_append, encN_length, List.length_cons]; omega
def nums64 (l : List Nat) : List Value := l.map fun x => .int .u64 (Int.ofNat x)
theorem u8_val (n : Nat) (h : n < 256) : Value.int .u8 (n : Int) = .int .u8 ((UInt8.ofNat n).toNat : Int) := by
  rw [UInt8.toNat_ofNat_of_lt' (by simpa using h)]
theorem shr_val (x j : Nat) : Value.int .u8 ((x : Int) / 2 ^ (8 * (j + 1) - 8) % 256) = .int .u8 ((UInt8.ofNat (x / 256 ^ j)).toNat : Int) := by
  have e : (UInt8.ofNat (x / 256 ^ j)).toNat = x / 256 ^ j % 256 := UInt8.toNat_ofNat'
  rw [e, show 8 * (j + 1) - 8 = 8 * j by omega, show (256 : Nat) ^ j = 2 ^ (8 * j) by rw [Nat.pow_mul]]
  simp
theorem bs_snoc (xs : List UInt8) (b : UInt8) : bs xs ++ [.int .u8 (b.toNat : Int)] = bs (xs ++ [b]) := by simp [bs]
theorem own_len {w : World} {base : Nat} {e : TypeId} {size : Nat} {v : Value} {n n' : Nat} {xs ys : List Value} (h : w.ownsRow base e size v n xs) (hn : n = n') (hx : xs = ys) : w.ownsRow base e size v n' ys := by
  subst hn; subst hx; exact h
theorem len64_calls (x bl : Nat) (h : x < 18446744073709551616) (hb : Hid (Lib.bitLen x = bl)) (w : World) :
    Calls Tryd.prog 52 #[.int .u64 (Int.ofNat x)] w fun e w' => e = .returned (.int .i64 (Int.ofNat bl)) ∧ w = w' :=
  (Tryd.bits_Len64 _ w (by simp) (by simp; omega)).mono fun e w' h => by obtain ⟨rfl, rfl⟩ := h; exact ⟨by rw [← hb.out]; rfl, rfl⟩
set_option maxHeartbeats 1000000 in
theorem num_calls (v lv : Value) (xs : List UInt8) (l : List Nat) (w : World) (hv : RV w v xs.length 1 (bs xs)) (hlv : RV w lv l.length 1 (nums64 l)) (h64 : ∀ x ∈ l, x < 18446744073709551616) (hl : xs.length + (encNs l).length ≤ 140737488355328) :
    Calls Tryd.prog 36 #[v, lv] w fun e w' => ∃ v', e = .returned v' ∧ w'.ownsRow w.heap.size 5 1 v' (xs ++ encNs l).length (bs (xs ++ encNs l)) ∧ Below w.heap.size w w' := by
  have hmax := hlv.max
  obtain ⟨_, A, c, rfl, hc1, hc2, hc3⟩ := id hlv
  go_enter Tryd.func36, Tryd.ntmps36
  go_wp2_with (go_at_call 42; refine (clone_bytes v xs _ hv (by omega)).mono ?_; rintro e w1 ⟨v1, rfl, ho1, hb1⟩)
  go_loopw [5, 14] (fun v i wr => ∃ k : Nat, k ≤ l.length ∧ i = .int .i64 k ∧ wr.ownsRow w.heap.size 5 1 v (xs ++ encNs (l.take k)).length (bs (xs ++ encNs (l.take k))) ∧ Below w.heap.size w wr) (fun _ i _ => l.length - (intOf i).toNat)
  case atStart => exact ⟨0, Nat.zero_le _, rfl, by simpa [encNs] using ho1, hb1⟩
  case round =>
    obtain ⟨k, hk, rfl, hown, hb⟩ := hrel
    by_cases hlt : k < l.length
    · obtain ⟨b, o, rfl, hcc⟩ := hc3 (by intro h; have := congrArg List.length h; simp [nums64] at this; subst this; simp at hlt)
      have hx := h64 l[k] (List.getElem_mem hlt)
      have hcell : wr.cell? ⟨b, o + k, none⟩ = some (.int .u64 (Int.ofNat l[k])) := by
        have := hcc k (.int .u64 (Int.ofNat l[k])) (by simp [nums64, hlt])
        exact (hb.cell (World.block_lt_of_cell? w _ this)).trans this
      clear hcc hc3
      obtain ⟨x, HX⟩ := hidden l[k]
      rw [HX.out] at hx hcell
      have hL : (xs ++ encNs (List.take k l)).length + (nb x + 1) ≤ 140737488355328 := by
        have h1 := flat_mono encN l (k + 1)
        have h2 := flat_succ encN l k hlt
        have h3 := encN_length x
        rw [h2, List.length_append, HX.out, h3] at h1
        have h4 : ((List.take k l).flatMap encN).length + (nb x + 1) ≤ (encNs l).length := h1
        have h5 : (encNs (List.take k l)).length + (nb x + 1) ≤ (encNs l).length := h4
        rw [List.length_append]; omega
      have hz := hb.size
      have hnb : Hid (nb x = (Lib.bitLen x + 7) / 8) := rfl
      obtain ⟨bl, hbx⟩ : ∃ bl, Hid (Lib.bitLen x = bl) := ⟨_, rfl⟩
      have hbl : bl ≤ 64 := by rw [← hbx.out]; exact bitLen_le x
      go_wp2_with (first | (go_at_call 52; refine (len64_calls x bl hx hbx _).mono ?_; rintro e w2 ⟨rfl, rfl⟩) | (at_builtin; refine wpList_append_one (.tmp 22) (.tmp 25) 36 w.heap.size 5 (.int .u8 0) 1 Tryd.underlying36 info_u8 hown _ rfl (by omega) (by omega) rfl rfl rfl rfl rfl (by decide) ?_; intro v2 w2 hown2 hb2))
      have hnb : nb x = (bl + 7) / 8 := by unfold nb; rw [hbx.out]
      have hN : (encN x).length = nb x + 1 := encN_length x
      have hE2 : encNs (l.take (k + 1)) = encNs (l.take k) ++ encN x := by rw [← HX.out]; exact flat_succ encN l k hlt
      obtain ⟨kk, hkk⟩ : ∃ kk, nb x = kk := ⟨_, rfl⟩
      have hk9 : kk ≤ 8 := by rw [← hkk]; exact nb_le x
      have hek : encN x = UInt8.ofNat kk :: be x kk := by unfold encN; rw [hkk]
      have hown3 : w2.ownsRow w.heap.size 5 1 v2 (xs ++ encNs (l.take k) ++ [UInt8.ofNat kk]).length (bs (xs ++ encNs (l.take k) ++ [UInt8.ofNat kk])) :=
        own_len hown2 (by simp; omega) (by rw [← bs_snoc, ← u8_val kk (by omega)]; congr 4; omega)
      generalize hpre : xs ++ encNs (l.take k) ++ [UInt8.ofNat kk] = pre at hown3
      have hpl : pre.length + kk ≤ 140737488355328 := by rw [← hpre, List.length_append]; simp at hL ⊢; omega
      have HP := hid hpre
      have HE := hid hE2
      have HK := hid hek
      have HB : Hid (kk = (bl + 7) / 8) := by rw [← hkk, hnb]; rfl
      clear hown2 hpre hE2 hek hnb hkk hown hN
      go_loopw [5, 9] (fun v at_ wr2 => ∃ j : Nat, j ≤ kk ∧ at_ = .int .i64 (8 * Int.ofNat j) ∧ wr2.ownsRow w.heap.size 5 1 v (pre ++ (be x kk).take (kk - j)).length (bs (pre ++ (be x kk).take (kk - j))) ∧ Below w.heap.size w wr2) (fun _ i _ => (intOf i).toNat)
      case atStart => exact ⟨kk, Nat.le_refl _, by rw [HB.out]; simp, by simpa using hown3, hb.trans hb2⟩
      case round =>
        clear hown3
        obtain ⟨j, hj, rfl, hown4, hb4⟩ := hrel
        by_cases hj0 : 0 < j
        · obtain ⟨j, rfl⟩ : ∃ i, j = i + 1 := ⟨j - 1, by omega⟩
          go_wp2_with (at_builtin; refine wpList_append_one (.tmp 33) (.tmp 38) 36 w.heap.size 5 (.int .u8 0) 1 Tryd.underlying36 info_u8 hown4 _ rfl (by simp; omega) (by have := hb4.size; omega) rfl rfl rfl rfl rfl (by decide) ?_; intro v3 w3 hown5 hb5)
          go_roundw
          case rel =>
            refine ⟨j, by omega, by go_num, own_len hown5 ?_ ?_, hb4.trans hb5⟩
            · rw [be_take x kk j (by omega)]; simp; omega
            · rw [shr_val, bs_snoc, be_take x kk j (by omega), List.append_assoc]
          case measure => simp [intOf]; omega
        · obtain rfl : j = 0 := by omega
          go_wp2
          go_roundw
          case rel =>
            refine ⟨k + 1, by omega, by go_num, ?_, hb4⟩
            have e : pre ++ List.take (kk - 0) (be x kk) = xs ++ encNs (List.take (k + 1) l) := by
              rw [HE.out, ← HP.out, HK.out, List.take_of_length_le (show (be x kk).length ≤ kk - 0 by rw [be_length]; omega)]; simp
            rw [← e]; exact hown4
          case measure => simp [intOf]; omega
    · go_wp2
      go_ret
      exact ⟨_, rfl, by simpa [show k = l.length by omega] using hown, hb⟩
def encB (x : List UInt8) : List UInt8 := encN x.length ++ x
def encBs (l : List (List UInt8)) : List UInt8 := l.flatMap encB
def encTs (l : List ByteArray) : List UInt8 := l.flatMap fun s => encB (tb s)
set_option maxHeartbeats 1000000 in
theorem text_calls (v lv : Value) (xs : List UInt8) (l : List ByteArray) (w : World) (hv : RV w v xs.length 1 (bs xs)) (hvs : RV w lv l.length 1 (ss l)) (hl : (xs ++ encTs l).length ≤ 140737488355328) :
    Calls Tryd.prog 37 #[v, lv] w fun e w' => ∃ v', e = .returned v' ∧ w'.ownsRow w.heap.size 5 1 v' (xs ++ encTs l).length (bs (xs ++ encTs l)) ∧ Below w.heap.size w w' := by
  obtain ⟨A, c, rfl⟩ := hvs.slice
  have hmax := hvs.max
  go_enter Tryd.func37, Tryd.ntmps37
  go_wp2_with (go_at_call 42; refine (clone_bytes v xs _ hv (by simp at hl; omega)).mono ?_; rintro e w1 ⟨v1, rfl, ho1, hb1⟩)
  go_loopw [5, 12] (fun v i wr => ∃ k : Nat, k ≤ l.length ∧ i = .int .i64 k ∧ wr.ownsRow w.heap.size 5 1 v (xs ++ encTs (l.take k)).length (bs (xs ++ encTs (l.take k))) ∧ Below w.heap.size w wr) (fun _ i _ => l.length - (intOf i).toNat)
  case atStart => exact ⟨0, Nat.zero_le _, rfl, by simpa [encTs] using ho1, hb1⟩
  case round =>
    obtain ⟨k, hk, rfl, hown, hb⟩ := hrel
    by_cases hlt : k < l.length
    · obtain ⟨b, o, u, rfl, hu, hcell, hbw⟩ := hvs.at_ k hlt
      obtain rfl : .string l[k] = u := by rw [ss_at l k hlt] at hu; exact Option.some.inj hu
      have hcell2 : wr.cell? ⟨b, o + k, none⟩ = some (.string l[k]) := (hb.cell hbw).trans hcell
      have hsucc := flat_succ (fun s => encB (tb s)) l k hlt
      have hmono := flat_mono (fun s => encB (tb s)) l (k + 1)
      obtain ⟨x, HX⟩ := hidden l[k]
      rw [HX.out] at hcell2 hsucc
      have hxs := tb_length x
      have hlx : (xs ++ encTs (l.take k)).length + (encB (tb x)).length ≤ 140737488355328 := by
        have : (encTs (l.take (k + 1))).length ≤ (encTs l).length := hmono
        have e : encTs (l.take (k + 1)) = encTs (l.take k) ++ encB (tb x) := hsucc
        rw [e] at this; simp at this hl ⊢; omega
      have HS := hid hsucc
      clear hsucc hmono hcell
      have hz := hb.size
      have hxm : x.size ≤ 140737488355328 := by rw [← hxs]; simp [encB] at hlx; omega
      go_wp2_with (first | (go_at_call 36; refine (num_calls _ _ (xs ++ encTs (l.take k)) [x.size] _ ((RV_own hown).alloc _) (RV_new _ [.int .u64 (Int.ofNat x.size)] 37 1 1 (0, 0) rfl (by decide)) (by simp; omega) (by simp [encB, encNs, hxs] at hlx ⊢; omega)).mono ?_; rintro e w2 ⟨v2, rfl, ho2, hb2⟩; have hz2 := hb2.size) | (at_builtin; refine wpList_append_str (.tmp 21) (.tmp 22) 36 9 w.heap.size 5 Tryd.underlying36 Tryd.underlying9 info_u8 (own_base ho2 (by simp; omega)) x (by simp [encB, encNs, hxs] at hlx ⊢; omega) (by simp at hz2; omega) rfl rfl rfl rfl ?_; intro v3 w3 ho3 hb3 _))
      go_roundw
      case rel =>
        refine ⟨k + 1, by omega, by go_num, own_len ho3 ?_ ?_, ?_⟩
        · have := congrArg List.length HS.out
          simp [encTs, encB, encNs, hxs] at this ⊢; omega
        · rw [show encTs (l.take (k + 1)) = encTs (l.take k) ++ encB (tb x) from HS.out]; simp [bs_append, encB, encNs, hxs]
        · exact ((hb.alloc hz _).trans (hb2.mono (by simp; omega))).trans hb3
      case measure => simp [intOf]; omega
    · go_wp2
      go_ret
      exact ⟨_, rfl, by simpa [show k = l.length by omega] using hown, hb⟩
end Go.Proofs.YtpgcepfecmkkaaaDoor
