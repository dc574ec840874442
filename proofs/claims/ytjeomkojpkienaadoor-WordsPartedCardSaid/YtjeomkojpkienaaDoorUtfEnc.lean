/-
  The plain law of texts: a code point's bytes, read again.
-/
import Derived.Test.YtjeomkojpkienaaDoorUtfRef2
set_option linter.unusedVariables false
set_option linter.unusedSimpArgs false
namespace Go.Proofs.YtjeomkojpkienaaDoor.Ref
open Go.RowKit Go.Proofs.YtjeomkojpkienaaDoor Go.Proofs.YtjeomkojpkienaaDoorZ.ZA Go.Proofs.YtjeomkojpkienaaDoorW.PrintWords
/-- A code point's bytes. -/
def encL (c : Int) : List UInt8 := (Lib.encodeRuneZ c).map fun n => UInt8.ofNat n.toNat
theorem of_nat (z : Int) (n : Nat) (h : z = (n : Int)) : UInt8.ofNat z.toNat = UInt8.ofNat n := by rw [h, Int.toNat_natCast]
theorem tb_encode (c : Int) (h : pointZ c) : tb (Utf8.encode c) = encL c := by
  have hv : Utf8.valid c = true := by unfold pointZ at h; unfold Utf8.valid; simp; omega
  obtain ⟨n, rfl⟩ := Int.eq_ofNat_of_zero_le (show 0 ≤ c by unfold pointZ at h; omega)
  unfold pointZ at h
  unfold Utf8.encode encL Lib.encodeRuneZ
  rw [hv]
  simp only [if_true, Int.toNat_natCast]
  by_cases c1 : n < 128
  · rw [if_pos c1, if_pos (by omega)]; simp [tb]
  rw [if_neg c1, if_neg (show ¬ (0 ≤ (n : Int) ∧ (n : Int) ≤ 127) by omega)]
  by_cases c2 : n < 2048
  · rw [if_pos c2, if_pos (by omega)]
    simp only [tb, List.map_cons, List.map_nil]
    rw [of_nat (192 + (n : Int) / 64) (192 + n / 64) (by omega), of_nat (128 + (n : Int) % 64) (128 + n % 64) (by omega)]
  rw [if_neg c2, if_neg (show ¬ (128 ≤ (n : Int) ∧ (n : Int) ≤ 2047) by omega)]
  by_cases c3 : n < 65536
  · rw [if_pos c3, if_pos (by omega)]
    simp only [tb, List.map_cons, List.map_nil]
    rw [of_nat (224 + (n : Int) / 4096) (224 + n / 4096) (by omega), of_nat (128 + (n : Int) / 64 % 64) (128 + n / 64 % 64) (by omega), of_nat (128 + (n : Int) % 64) (128 + n % 64) (by omega)]
  rw [if_neg c3, if_neg (by omega), if_pos (by omega)]
  simp only [tb, List.map_cons, List.map_nil]
  rw [of_nat (240 + (n : Int) / 262144) (240 + n / 262144) (by omega), of_nat (128 + (n : Int) / 4096 % 64) (128 + n / 4096 % 64) (by omega), of_nat (128 + (n : Int) / 64 % 64) (128 + n / 64 % 64) (by omega), of_nat (128 + (n : Int) % 64) (128 + n % 64) (by omega)]
theorem nat_of (z : Int) (h : 0 ≤ z ∧ z < 256) : (UInt8.ofNat z.toNat).toNat = z.toNat := by simp; omega
theorem nxt_enc (c : Int) (h : pointZ c) (m : List UInt8) : nxt (encL c ++ m) = (c.toNat, (encL c).length) ∧ 1 ≤ (encL c).length ∧ (encL c).length ≤ 4 := by
  unfold pointZ at h
  unfold encL Lib.encodeRuneZ
  repeat' split
  all_goals simp only [List.map_cons, List.map_nil, List.cons_append, List.nil_append, List.length_cons, List.length_nil]
  · refine ⟨?_, by omega, by omega⟩
    unfold nxt
    simp only [List.length_cons, List.getD_cons_zero, List.getD_cons_succ]
    rw [nat_of _ (by omega), nx_one _ _ _ _ _ (by omega) (by omega)]
  · refine ⟨?_, by omega, by omega⟩
    unfold nxt
    simp only [List.length_cons, List.getD_cons_zero, List.getD_cons_succ]
    rw [nat_of _ (by omega), nat_of _ (by omega), nx_two _ _ _ _ _ ⟨by omega, by omega, by omega, by omega⟩]
    congr 1
    omega
  · refine ⟨?_, by omega, by omega⟩
    unfold nxt
    simp only [List.length_cons, List.getD_cons_zero, List.getD_cons_succ]
    rw [nat_of _ (by omega), nat_of _ (by omega), nat_of _ (by omega), nx_three _ _ _ _ _ ⟨by omega, by omega, by omega, by omega, by omega, by omega⟩]
    congr 1
    omega
  · refine ⟨?_, by omega, by omega⟩
    unfold nxt
    simp only [List.length_cons, List.getD_cons_zero, List.getD_cons_succ]
    rw [nat_of _ (by omega), nat_of _ (by omega), nat_of _ (by omega), nat_of _ (by omega), nx_four _ _ _ _ _ ⟨by omega, by omega, by omega, by omega, by omega, by omega, by omega⟩]
    congr 1
    omega
  · omega
theorem foldl_tb (ns : List Int) : ∀ s : ByteArray, tb (ns.foldl (fun r n => r ++ Utf8.encode n) s) = tb s ++ ns.flatMap fun n => tb (Utf8.encode n) := by
  induction ns with
  | nil => intro s; simp
  | cons n r ih => intro s; rw [List.foldl_cons, ih, tb_append, List.flatMap_cons, List.append_assoc]
def encs (ns : List Int) : List UInt8 := ns.flatMap encL
theorem tb_runes (ns : List Int) (h : ∀ x ∈ ns, pointZ x) : tb (runesBytes ns) = encs ns := by
  unfold runesBytes encs
  rw [foldl_tb]
  have e : tb ByteArray.empty = [] := rfl
  rw [e, List.nil_append]
  induction ns with
  | nil => rfl
  | cons n r ih => rw [List.flatMap_cons, List.flatMap_cons, tb_encode n (h n (by simp)), ih (fun x hx => h x (by simp [hx]))]
end Go.Proofs.YtjeomkojpkienaaDoor.Ref
