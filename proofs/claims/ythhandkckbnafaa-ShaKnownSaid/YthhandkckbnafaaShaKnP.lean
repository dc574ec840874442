/-
  The sum of a million letters a, and of the text of 56 bytes, reckoned.
-/
import Derived.Test.YthhandkckbnafaaShaKn0
import Derived.Test.YthhandkckbnafaaShaKn1
import Derived.Test.YthhandkckbnafaaShaKn2
import Derived.Test.YthhandkckbnafaaShaKn3
import Derived.Test.YthhandkckbnafaaShaIO
set_option linter.unusedVariables false
set_option linter.unusedSimpArgs false
namespace Go.Proofs.Ythhandkckbnafaa
open Go.RowKit Go.Proofs.YthhandkckbnafaaZ.ZA
def mil : List UInt8 := List.replicate 1000000 97
theorem mil_length : mil.length = 1000000 := List.length_replicate ..
theorem mil_block (i : Nat) (h : i < 15625) : (mil.drop (64 * i)).take 64 = List.replicate 64 97 := by
  unfold mil
  rw [List.drop_replicate, List.take_replicate, Nat.min_eq_left (by omega)]
def lastB : List UInt8 := [128, 0, 0, 0, 0, 0, 0, 0, 0, 0, 0, 0, 0, 0, 0, 0, 0, 0, 0, 0, 0, 0, 0, 0, 0, 0, 0, 0, 0, 0, 0, 0, 0, 0, 0, 0, 0, 0, 0, 0, 0, 0, 0, 0, 0, 0, 0, 0, 0, 0, 0, 0, 0, 0, 0, 0, 0, 0, 0, 0, 0, 122, 18, 0]
theorem mil_pad : padM mil = mil ++ lastB := by
  unfold padM
  rw [mil_length]
  congr 1
theorem kn_all : itF KWA 15625 IV = [2061136107, 1745259042, 791610055, 2140370626, 1884297759, 3529239238, 671294972, 693152569] := by
  have e : (15625 : Nat) = 977 + (977 + (977 + (977 + (977 + (977 + (977 + (977 + (977 + (977 + (977 + (977 + (977 + (977 + (977 + 970)))))))))))))) := rfl
  rw [e]
  rw [itF_add]
  rw [show IV = [1779033703, 3144134277, 1013904242, 2773480762, 1359893119, 2600822924, 528734635, 1541459225] from rfl, kn0]
  rw [itF_add, kn1]
  rw [itF_add, kn2]
  rw [itF_add, kn3]
  rw [itF_add, kn4]
  rw [itF_add, kn5]
  rw [itF_add, kn6]
  rw [itF_add, kn7]
  rw [itF_add, kn8]
  rw [itF_add, kn9]
  rw [itF_add, kn10]
  rw [itF_add, kn11]
  rw [itF_add, kn12]
  rw [itF_add, kn13]
  rw [itF_add, kn14]
  exact kn15
set_option maxRecDepth 1000000 in
theorem kn_last : hexs ((nextH [2061136107, 1745259042, 791610055, 2140370626, 1884297759, 3529239238, 671294972, 693152569] lastB).flatMap be4) = [99, 100, 99, 55, 54, 101, 53, 99, 57, 57, 49, 52, 102, 98, 57, 50, 56, 49, 97, 49, 99, 55, 101, 50, 56, 52, 100, 55, 51, 101, 54, 55, 102, 49, 56, 48, 57, 97, 52, 56, 97, 52, 57, 55, 50, 48, 48, 101, 48, 52, 54, 100, 51, 57, 99, 99, 99, 55, 49, 49, 50, 99, 100, 48] := by decide +kernel
theorem mil_words : digW mil = nextH [2061136107, 1745259042, 791610055, 2140370626, 1884297759, 3529239238, 671294972, 693152569] lastB := by
  have hl : lastB.length = 64 := rfl
  have hp : (padM mil).length = 1000064 := by rw [mil_pad, List.length_append, mil_length, hl]
  have h0 := (it_eq IV IV_eight 15625).2 mil 0 (fun i hi => by rw [Nat.zero_add]; exact mil_block i hi) rfl
  rw [Nat.zero_add, kn_all] at h0
  have h1 : hN (padM mil) 15625 = [2061136107, 1745259042, 791610055, 2140370626, 1884297759, 3529239238, 671294972, 693152569] := by
    rw [mil_pad, hN_more mil lastB 15625 (by rw [mil_length]; decide), h0]
  unfold digW
  rw [hp, show 1000064 / 64 = 15625 + 1 from rfl]
  show nextH (hN (padM mil) 15625) (((padM mil).drop (64 * 15625)).take 64) = _
  rw [h1, mil_pad, List.drop_append_of_le_length (by rw [mil_length]; decide), List.drop_of_length_le (by rw [mil_length]; decide), List.nil_append, List.take_of_length_le (by rw [hl]; decide)]
theorem dig_mil : hexs (digest mil) = [99, 100, 99, 55, 54, 101, 53, 99, 57, 57, 49, 52, 102, 98, 57, 50, 56, 49, 97, 49, 99, 55, 101, 50, 56, 52, 100, 55, 51, 101, 54, 55, 102, 49, 56, 48, 57, 97, 52, 56, 97, 52, 57, 55, 50, 48, 48, 101, 48, 52, 54, 100, 51, 57, 99, 99, 99, 55, 49, 49, 50, 99, 100, 48] := by
  unfold digest
  rw [mil_words]
  exact kn_last
set_option maxRecDepth 1000000 in
theorem dig_56 : hexs (digest [97, 98, 99, 100, 98, 99, 100, 101, 99, 100, 101, 102, 100, 101, 102, 103, 101, 102, 103, 104, 102, 103, 104, 105, 103, 104, 105, 106, 104, 105, 106, 107, 105, 106, 107, 108, 106, 107, 108, 109, 107, 108, 109, 110, 108, 109, 110, 111, 109, 110, 111, 112, 110, 111, 112, 113]) = [50, 52, 56, 100, 54, 97, 54, 49, 100, 50, 48, 54, 51, 56, 98, 56, 101, 53, 99, 48, 50, 54, 57, 51, 48, 99, 51, 101, 54, 48, 51, 57, 97, 51, 51, 99, 101, 52, 53, 57, 54, 52, 102, 102, 50, 49, 54, 55, 102, 54, 101, 99, 101, 100, 100, 52, 49, 57, 100, 98, 48, 54, 99, 49] := by decide +kernel
end Go.Proofs.Ythhandkckbnafaa
