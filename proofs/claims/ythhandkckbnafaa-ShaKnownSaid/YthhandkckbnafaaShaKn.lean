/-
  A fast form of a block's step, equal to nextH: for the reckoning of many equal blocks by the kernel.
-/
import Derived.Test.YthhandkckbnafaaShaSum
set_option linter.unusedVariables false
set_option linter.unusedSimpArgs false
namespace Go.Proofs.Ythhandkckbnafaa
open Go.RowKit Go.Proofs.YthhandkckbnafaaZ.ZA
def fc (n : Nat) (f : Nat → List Nat) : List Nat := Nat.rec (f 0) (fun k _ => f (k + 1)) n
theorem fc_eq (n : Nat) (f : Nat → List Nat) : fc n f = f n := by cases n <;> rfl
def rndF : List Nat → Nat → Nat → Nat → Nat → Nat → Nat → Nat → Nat → List Nat
  | [], a, b, c, d, e, f, g, h => [a, b, c, d, e, f, g, h]
  | kw :: r, a, b, c, d, e, f, g, h =>
    fc ((h + (Nat.xor (Nat.xor (e / 64 + e % 64 * 67108864) (e / 2048 + e % 2048 * 2097152)) (e / 33554432 + e % 33554432 * 128)) + (Nat.xor (Nat.land e f) (Nat.land (Nat.xor 4294967295 e) g)) + kw) % 4294967296) fun t =>
    fc ((d + t) % 4294967296) fun e2 =>
    fc ((t + (Nat.xor (Nat.xor (a / 4 + a % 4 * 1073741824) (a / 8192 + a % 8192 * 524288)) (a / 4194304 + a % 4194304 * 1024)) + (Nat.xor (Nat.xor (Nat.land a b) (Nat.land a c)) (Nat.land b c))) % 4294967296) fun a2 =>
    rndF r a2 a b c e2 e f g
def blkF (KW : List Nat) : List Nat → List Nat
  | [a, b, c, d, e, f, g, h] => match rndF KW a b c d e f g h with
    | [x0, x1, x2, x3, x4, x5, x6, x7] => fc ((a + x0) % 4294967296) fun y0 => fc ((b + x1) % 4294967296) fun y1 => fc ((c + x2) % 4294967296) fun y2 => fc ((d + x3) % 4294967296) fun y3 => fc ((e + x4) % 4294967296) fun y4 => fc ((f + x5) % 4294967296) fun y5 => fc ((g + x6) % 4294967296) fun y6 => fc ((h + x7) % 4294967296) fun y7 => [y0, y1, y2, y3, y4, y5, y6, y7]
    | X => X
  | H => H
def itF (KW : List Nat) : Nat → List Nat → List Nat
  | 0, H => H
  | n + 1, H => itF KW n (blkF KW H)
theorem itF_add (KW : List Nat) (m n : Nat) (H : List Nat) : itF KW (m + n) H = itF KW n (itF KW m H) := by
  induction m generalizing H with
  | zero => rw [Nat.zero_add]; rfl
  | succ m ih => rw [show m + 1 + n = (m + n) + 1 by omega]; exact ih _
/-- The constants with the words of a schedule, from the i-th on. -/
def kws (B : List UInt8) : Nat → Nat → List Nat
  | _, 0 => []
  | i, r + 1 => (kN.getD i 0 + (sched B 64).getD i 0) :: kws B (i + 1) r
theorem rnd_one (kw : Nat) (r : List Nat) (a b c d e f g h kc wv : Nat) (hk : kw = kc + wv) : rndF (kw :: r) a b c d e f g h = match stepL [a, b, c, d, e, f, g, h] kc wv with
    | [a', b', c', d', e', f', g', h'] => rndF r a' b' c' d' e' f' g' h'
    | X => X := by
  subst hk
  rw [stepL_eq]
  show fc _ _ = _
  rw [fc_eq, fc_eq, fc_eq]
  have e1 : (h + (Nat.xor (Nat.xor (e / 64 + e % 64 * 67108864) (e / 2048 + e % 2048 * 2097152)) (e / 33554432 + e % 33554432 * 128)) + (Nat.xor (Nat.land e f) (Nat.land (Nat.xor 4294967295 e) g)) + (kc + wv)) % 4294967296 = tN e f g h kc wv := by
    show (h + (rot e 6 ^^^ rot e 11 ^^^ rot e 25) + ((e &&& f) ^^^ ((4294967295 ^^^ e) &&& g)) + (kc + wv)) % 4294967296 = _
    unfold tN
    rw [Nat.add_assoc (h + (rot e 6 ^^^ rot e 11 ^^^ rot e 25) + ((e &&& f) ^^^ ((4294967295 ^^^ e) &&& g))) kc wv]
  rw [e1]
  have e2 : (tN e f g h kc wv + (Nat.xor (Nat.xor (a / 4 + a % 4 * 1073741824) (a / 8192 + a % 8192 * 524288)) (a / 4194304 + a % 4194304 * 1024)) + (Nat.xor (Nat.xor (Nat.land a b) (Nat.land a c)) (Nat.land b c))) % 4294967296 = (tN e f g h kc wv + uN a b c) % 4294967296 := by
    show (tN e f g h kc wv + (rot a 2 ^^^ rot a 13 ^^^ rot a 22) + (((a &&& b) ^^^ (a &&& c)) ^^^ (b &&& c))) % 4294967296 = _
    unfold uN
    generalize tN e f g h kc wv = T
    generalize rot a 2 ^^^ rot a 13 ^^^ rot a 22 = S
    generalize ((a &&& b) ^^^ (a &&& c)) ^^^ (b &&& c) = Q
    omega
  rw [e2]
theorem rnd_all (H : List Nat) (B : List UInt8) (hH : Eight H) : ∀ (r i : Nat), i + r = 64 → ∀ a b c d e f g h, comp H B i = [a, b, c, d, e, f, g, h] → rndF (kws B i r) a b c d e f g h = comp H B 64 := by
  intro r
  induction r with
  | zero =>
    intro i hi a b c d e f g h hX
    have : i = 64 := by omega
    subst this
    rw [hX]; rfl
  | succ r ih =>
    intro i hi a b c d e f g h hX
    have hs : comp H B (i + 1) = stepL (comp H B i) (kN.getD i 0) ((sched B 64).getD i 0) := rfl
    rw [hX] at hs
    show rndF ((kN.getD i 0 + (sched B 64).getD i 0) :: kws B (i + 1) r) a b c d e f g h = _
    rw [rnd_one _ _ a b c d e f g h _ _ rfl, stepL_eq]
    rw [stepL_eq] at hs
    exact ih (i + 1) (by omega) _ _ _ _ _ _ _ _ hs
theorem blkF_of (KW : List Nat) (a b c d e f g h x0 x1 x2 x3 x4 x5 x6 x7 : Nat) (hr : rndF KW a b c d e f g h = [x0, x1, x2, x3, x4, x5, x6, x7]) :
    blkF KW [a, b, c, d, e, f, g, h] = [(a + x0) % 4294967296, (b + x1) % 4294967296, (c + x2) % 4294967296, (d + x3) % 4294967296, (e + x4) % 4294967296, (f + x5) % 4294967296, (g + x6) % 4294967296, (h + x7) % 4294967296] := by
  simp only [blkF, hr, fc_eq]
theorem addL_8 (a b c d e f g h x0 x1 x2 x3 x4 x5 x6 x7 : Nat) : addL [a, b, c, d, e, f, g, h] [x0, x1, x2, x3, x4, x5, x6, x7] 8 = [(a + x0) % 4294967296, (b + x1) % 4294967296, (c + x2) % 4294967296, (d + x3) % 4294967296, (e + x4) % 4294967296, (f + x5) % 4294967296, (g + x6) % 4294967296, (h + x7) % 4294967296] := rfl
theorem blk_eq (H : List Nat) (B : List UInt8) (hH : Eight H) : blkF (kws B 0 64) H = nextH H B := by
  obtain ⟨x0, x1, x2, x3, x4, x5, x6, x7, hX, _⟩ := comp_eight H B hH 64
  have h := rnd_all H B hH 64 0 rfl
  generalize kws B 0 64 = KW at h ⊢
  obtain ⟨a, b, c, d, e, f, g, hh, rfl, _⟩ := hH
  have h2 := h a b c d e f g hh rfl
  unfold nextH
  rw [hX] at h2 ⊢
  rw [addL_8]
  exact blkF_of KW a b c d e f g hh x0 x1 x2 x3 x4 x5 x6 x7 h2
def KWA : List Nat := [2750124281, 3533219314, 4683095344, 5554781446, 2595759036, 3142742866, 4087407621, 4504535094, 5258152953, 1944370274, 2240997151, 3060653860, 3558850261, 3795850079, 4248659976, 4881994453, 7962470397, 8149304770, 1109373709, 1449834259, 1332383432, 1811277571, 5697566716, 4336890837, 4651386783, 7023905028, 4167673427, 6075095564, 3506461443, 6222891004, 3100717738, 957412701, 3211936012, 2525724465, 5192624004, 2750766458, 3733122911, 5785415788, 5302099131, 4510137934, 4494867471, 3051847127, 6841751890, 5493434369, 5416391400, 6288792078, 4206943767, 1385611443, 2838015846, 4615462549, 2870002303, 4911289699, 3868675357, 5105900214, 4192983651, 4114851946, 2567787456, 3518289627, 3043469264, 3431775655, 2875437985, 3700493388, 7133747437, 3572068108]
set_option maxRecDepth 1000000 in
theorem KWA_eq : kws (List.replicate 64 97) 0 64 = KWA := by decide +kernel
theorem it_eq (H : List Nat) (hH : Eight H) (n : Nat) : Eight (itF KWA n H) ∧ ∀ M : List UInt8, ∀ k, (∀ i, i < n → (M.drop (64 * (k + i))).take 64 = List.replicate 64 97) → hN M k = H → hN M (k + n) = itF KWA n H := by
  induction n generalizing H with
  | zero => exact ⟨hH, fun M k _ h => h⟩
  | succ n ih =>
    have hb : blkF KWA H = nextH H (List.replicate 64 97) := by rw [← KWA_eq]; exact blk_eq H _ hH
    have h8 : Eight (blkF KWA H) := by rw [hb]; exact nextH_eight _ _ hH
    obtain ⟨h1, h2⟩ := ih (blkF KWA H) h8
    refine ⟨h1, fun M k hk h => ?_⟩
    have hs : hN M (k + 1) = blkF KWA H := by
      show nextH (hN M k) ((M.drop (64 * k)).take 64) = _
      have := hk 0 (by omega)
      rw [Nat.add_zero] at this
      rw [h, this, hb]
    have := h2 M (k + 1) (fun i hi => by have := hk (i + 1) (by omega); rwa [show k + (i + 1) = k + 1 + i by omega] at this) hs
    rw [show k + (n + 1) = k + 1 + n by omega]
    exact this
end Go.Proofs.Ythhandkckbnafaa
