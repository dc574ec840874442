/-
  Between the print's words on slices and this session's: rows of bytes, numbers, texts.
-/
import Derived.Test.YthhandkckbnafaaK
import Derived.Test.YthhandkckbnafaaWWords
set_option linter.unusedVariables false
set_option linter.unusedSimpArgs false
namespace Go.Proofs.Ythhandkckbnafaa
open Go.RowKit Go.Proofs.YthhandkckbnafaaW.PrintWords

theorem RV_of_C {α : Type} {enc : α → Value} {h1 : ∀ x, (enc x).oneCell' = true} {w : World} {A : Option Addr} {c : Nat} {xs : List α} (h : (Kd.scalar enc h1).C w A xs.length xs) (hc : xs.length ≤ c) : RV w (.slice A xs.length c) xs.length 1 (xs.map enc) := by
  refine ⟨by simp, A, c, rfl, hc, by have := h.2.1; unfold maxLen; omega, fun hne => ?_⟩
  have h0 : 0 < xs.length := List.length_pos_iff.2 (by intro e; apply hne; rw [e]; rfl)
  obtain ⟨ad, rfl, hcell⟩ := h.2.2 h0
  have key : ∀ j u, (xs.map enc)[j]? = some u → w.cell? (ad.add j) = some u := by
    intro j u hj
    rw [List.getElem?_map] at hj
    obtain ⟨p, hp, rfl⟩ := Option.map_eq_some_iff.1 hj
    obtain ⟨c0, _, hK, hx⟩ := hcell j p hp
    have hK' : c0 = [enc p] := hK
    subst hK'
    have := hx 0 (enc p) rfl
    have e1 : j * (Kd.scalar enc h1).sz + 0 = j := by show j * 1 + 0 = j; omega
    rwa [e1] at this
  obtain ⟨b, o, s⟩ := ad
  have hs : s = none := by simpa [Addr.add] using World.cell?_spot (key 0 (enc xs[0]) (by simp [h0]))
  subst hs
  exact ⟨b, o, rfl, fun j u hj => by rw [← add_plain]; exact key j u hj⟩
/-- Numbers that are bytes; 64 bits. -/
def okB (l : List Int) : Bool := l.all fun x => decide (0 ≤ x ∧ x < 256)
def okU (l : List Int) : Bool := l.all fun x => decide (0 ≤ x ∧ x < 18446744073709551616)
def toB (l : List Int) : List UInt8 := l.map fun x => UInt8.ofNat x.toNat
def ofB (xs : List UInt8) : List Int := xs.map fun b => (b.toNat : Int)
theorem toB_length (l : List Int) : (toB l).length = l.length := by simp [toB]
theorem ofB_length (l : List UInt8) : (ofB l).length = l.length := by simp [ofB]
theorem ofB_app (a b : List UInt8) : ofB (a ++ b) = ofB a ++ ofB b := by simp [ofB]
theorem toB_app (a b : List Int) : toB (a ++ b) = toB a ++ toB b := by simp [toB]
theorem toB_ofB (xs : List UInt8) : toB (ofB xs) = xs := by
  unfold toB ofB
  rw [List.map_map]
  conv => rhs; rw [← List.map_id xs]
  refine List.map_congr_left fun b _ => ?_
  simp
theorem okB_ofB (xs : List UInt8) : okB (ofB xs) = true := by
  unfold okB ofB
  rw [List.all_eq_true]
  intro x hx
  obtain ⟨b, _, rfl⟩ := List.mem_map.1 hx
  have := b.toNat_lt
  exact decide_eq_true ⟨by omega, by omega⟩
theorem ofB_toB {l : List Int} (h : okB l = true) : ofB (toB l) = l := by
  unfold ofB toB
  rw [List.map_map]
  conv => rhs; rw [← List.map_id l]
  refine List.map_congr_left fun x hx => ?_
  have := of_decide_eq_true (List.all_eq_true.1 h x hx)
  simp
  omega
theorem bs_ofB (xs : List UInt8) : bs xs = (ofB xs).map (Value.int .u8) := by unfold bs ofB; rw [List.map_map]; rfl
theorem bs_toB {l : List Int} (h : okB l = true) : bs (toB l) = l.map (Value.int .u8) := by rw [bs_ofB, ofB_toB h]
theorem okB_app {a b : List Int} : okB (a ++ b) = (okB a && okB b) := by unfold okB; rw [List.all_append]
theorem RV_bytes {w : World} {A : Option Addr} {c : Nat} {l : List Int} (h : Kd.C (Kd.int .u8) w A l.length l) (hc : l.length ≤ c) (hb : okB l = true) : RV w (.slice A l.length c) (toB l).length 1 (bs (toB l)) := by
  rw [toB_length, bs_toB hb]
  exact RV_of_C h hc
theorem R_bytes {w : World} {e base : Nat} {v : Value} {xs : List UInt8} (h : w.ownsRow base e 1 v xs.length (bs xs)) : Kd.R (Kd.int .u8) e w base (fun _ => True) v (ofB xs) := by
  rw [bs_ofB] at h
  exact Kd.R_of_own (by rw [ofB_length]; exact h) (fun _ _ => trivial)
end Go.Proofs.Ythhandkckbnafaa
