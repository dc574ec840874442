/-
  The document's pack: what is written.
-/
import Derived.Test.YtpgcepfecmkkaaaDoorPackE
import Derived.Test.YtpgcepfecmkkaaaDoorPackP
set_option linter.unusedVariables false
set_option linter.unusedSimpArgs false
namespace Go.Proofs.YtpgcepfecmkkaaaDoor
open Go.RowKit
/-- The lowest j bytes, the lowest first. -/
def le (x j : Nat) : List UInt8 := (List.range j).map fun i => UInt8.ofNat (x / 256 ^ i)
theorem le_length (x j : Nat) : (le x j).length = j := by simp [le]
theorem le_succ (x j : Nat) : le x (j + 1) = le x j ++ [UInt8.ofNat (x / 256 ^ j)] := by simp [le, List.range_succ]
theorem rem_val (y : Nat) : Value.int .u8 ((y : Int) % 256) = .int .u8 ((UInt8.ofNat y).toNat : Int) := by
  have e : (UInt8.ofNat y).toNat = y % 256 := UInt8.toNat_ofNat'
  rw [e]; simp
theorem own_full {base : Nat} {e : TypeId} {size : Nat} (w : World) (cur : List Value) (n : Nat) (hb : base ≤ w.heap.size) (hm : n ≤ maxLen) (hs : cur.length = n * size) : (w.alloc (.cells cur.toArray e)).ownsRow base e size (.slice (some ⟨w.heap.size, 0, none⟩) n n) n cur :=
  ⟨hs, .inr ⟨w.heap.size, n, cur.toArray, rfl, hb, heap_alloc_new w _, Nat.le_refl _, hm, by simpa using hs, by rw [← hs]; simp⟩⟩
set_option maxHeartbeats 1000000 in
theorem number_calls (x : Nat) (hx : x < 18446744073709551616) (w : World) : Calls Tryd.prog 53 #[.int .u64 (Int.ofNat x)] w fun e w' => ∃ v', e = .returned v' ∧ w'.ownsRow w.heap.size 5 1 v' (encN x).length (bs (encN x)) ∧ Below w.heap.size w w' := by
  have hnb := nb_le x
  go_enter Tryd.func53, Tryd.ntmps53
  go_wp2_with fail
  go_loopw [0, 3] (fun z lo wr => ∃ j : Nat, Hid (j + nb (x / 256 ^ j) = nb x) ∧ z = .int .u64 ((x / 256 ^ j : Nat) : Int) ∧ wr.ownsRow w.heap.size 5 1 lo (le x j).length (bs (le x j)) ∧ Below w.heap.size w wr) (fun z _ _ => (intOf z).toNat)
  case atStart => exact ⟨0, by show _ = _; simp, by simp, World.ownsRow_nil _ _ _ _, Below.refl _ _⟩
  case round =>
    obtain ⟨j, hj, rfl, hown, hb⟩ := hrel
    have hzx : x / 256 ^ j ≤ x := Nat.div_le_self _ _
    have hz := hb.size
    have hjn : j ≤ nb x := by have := hj.out; omega
    by_cases h0 : 0 < x / 256 ^ j
    · have hd := nb_div (x / 256 ^ j) (by omega) h0
      have hdd : x / 256 ^ (j + 1) = x / 256 ^ j / 256 := by rw [Nat.pow_succ, Nat.div_div_eq_div_mul]
      have hll := le_succ x j
      have HL := hid hll
      have HD := hid hdd
      clear hdd hll
      have hlen := le_length x j
      obtain ⟨z, hzz⟩ := hidden (x / 256 ^ j)
      rw [hzz.out] at h0 hzx hj hd HD HL ⊢
      have HD2 := hid hd
      clear hd
      rw [hlen] at hown
      clear hlen
      go_wp2_with (at_builtin; refine wpList_append_one (.tmp 8) (.tmp 12) 36 w.heap.size 5 (.int .u8 0) 1 Tryd.underlying36 info_u8 hown _ rfl (by omega) (by omega) rfl rfl rfl rfl rfl (by decide) ?_; intro v1 w1 hown1 hb1)
      go_roundw
      case rel =>
        refine ⟨j + 1, ?_, ?_, own_len hown1 (by rw [le_length]) (by rw [rem_val, bs_snoc, HL.out]), hb.trans hb1⟩
        · show _ = _
          have := hj.out; have := HD2.out; rw [HD.out]; omega
        · rw [HD.out]; go_num
      case measure => simp [intOf]; omega
    · obtain ⟨z, hzz⟩ := hidden (x / 256 ^ j)
      rw [hzz.out] at h0 hj hzx ⊢
      have hz0 : z = 0 := by omega
      have hj2 := hj.out
      rw [hz0, nb_zero] at hj2
      obtain rfl : j = nb x := by omega
      clear hj2 hj hz0
      rename World => wq
      have hrl := RV_own hown
      rw [le_length] at hrl hown
      obtain ⟨LA, LC, rfl⟩ := hrl.slice
      obtain ⟨kk, hkk⟩ : ∃ kk, nb x = kk := ⟨_, rfl⟩
      rw [hkk] at hnb hrl ⊢
      have hek : encN x = UInt8.ofNat kk :: be x kk := by unfold encN; rw [hkk]
      have HK := hid hek
      clear hek hkk hown
      have hO := own_full (base := wq.heap.size) (e := 5) (size := 1) wq [.int .u8 (kk : Int)] 1 (Nat.le_refl _) (by decide) rfl
      have hra := hrl.alloc (.cells #[.int .u8 (kk : Int)] 5)
      have hbz : Below w.heap.size w (wq.alloc (.cells #[.int .u8 (kk : Int)] 5)) := hb.alloc hz _
      have hO2 : (wq.alloc (.cells #[.int .u8 (kk : Int)] 5)).ownsRow wq.heap.size 5 1 (.slice (some ⟨wq.heap.size, 0, none⟩) 1 1) ([UInt8.ofNat kk] : List UInt8).length (bs [UInt8.ofNat kk]) := own_len hO rfl (by simp only [bs, List.map_cons, List.map_nil]; rw [← u8_val kk (by omega)])
      clear hO
      go_wp2_with fail
      go_loopw [4, 5] (fun o i wr2 => ∃ j : Nat, j ≤ kk ∧ i = .int .i64 (Int.ofNat j) ∧ wr2.ownsRow wq.heap.size 5 1 o (UInt8.ofNat kk :: (be x kk).take (kk - j)).length (bs (UInt8.ofNat kk :: (be x kk).take (kk - j))) ∧ Below w.heap.size w wr2 ∧ Below wq.heap.size wq wr2) (fun _ i _ => (intOf i).toNat)
      case atStart => exact ⟨kk, Nat.le_refl _, rfl, by simpa using hO2, hbz, (Below.refl _ _).alloc (Nat.le_refl _) _⟩
      case round =>
        clear hO2 hra hbz
        obtain ⟨j, hj, rfl, hown4, hb4, hb5⟩ := hrel
        have hlen : (UInt8.ofNat kk :: (be x kk).take (kk - j)).length = kk - j + 1 := by simp [be_length]
        by_cases hj0 : 0 < j
        · obtain ⟨j, rfl⟩ : ∃ i, j = i + 1 := ⟨j - 1, by omega⟩
          have hrl2 := hrl.below hb5
          obtain ⟨b, o, u, rfl, hu, hcell, hbw⟩ := hrl2.at_ j (by omega)
          have hu2 : u = .int .u8 ((UInt8.ofNat (x / 256 ^ j)).toNat : Int) := by
            rw [bs_at _ j (by rw [le_length]; omega)] at hu
            simp [le] at hu
            rw [← hu]; simp
          obtain ⟨cb, HU⟩ := hidden (UInt8.ofNat (x / 256 ^ j))
          rw [HU.out] at hu2
          subst hu2
          clear hu
          rw [hlen] at hown4
          clear hlen
          have hz4 := hb5.size
          go_wp2_with (at_builtin; refine wpList_append_one (.tmp 26) (.tmp 32) 36 wq.heap.size 5 (.int .u8 0) 1 Tryd.underlying36 info_u8 hown4 _ rfl (by omega) (by omega) rfl rfl rfl rfl rfl (by decide) ?_; intro v3 w3 hown5 hb6)
          go_roundw
          case rel =>
            refine ⟨j, by omega, by go_num, own_len hown5 ?_ ?_, hb4.trans (hb6.mono hz), hb5.trans hb6⟩
            · rw [be_take x kk j (by omega)]; simp [be_length]
              try omega
            · rw [bs_snoc, be_take x kk j (by omega), HU.out]; rfl
          case measure => simp [intOf]
        · obtain rfl : j = 0 := by omega
          go_wp2_with fail
          go_ret
          refine ⟨_, rfl, ?_, hb4⟩
          rw [HK.out]
          exact own_base (own_len hown4 (by simp [be_length]) (by rw [List.take_of_length_le (by rw [be_length]; omega)])) hz
end Go.Proofs.YtpgcepfecmkkaaaDoor
