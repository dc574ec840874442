/-
  Conversions, in one word each: a text's bytes as new memory.
-/
import Derived.Test.YtpgcepfecmkkaaaDoorK
import Derived.Lib.ConvBytes
set_option linter.unusedVariables false
set_option linter.unusedSimpArgs false
namespace Go.Proofs.YtpgcepfecmkkaaaDoor
open Go.RowKit
theorem str_bytes {P : Program} (w : World) (src dst e : TypeId) (s : ByteArray) (hm : s.size ≤ 140737488355328) (hs : P.underlying src = some .string) (hd : P.underlying dst = some (.slice e)) (he : P.underlying e = some (.int .u8)) :
    ∃ A c w', (convert src dst (.string s)).run P w = .ok (.slice A s.size c) w' ∧ RV w' (.slice A s.size c) s.size 1 (bs (tb s)) ∧ Below w.heap.size w w' := by
  refine ⟨_, _, _, Lib.run_convert_string_bytes w src dst e s hs hd he, ⟨by rw [bs_length, tb_length]; omega, _, _, rfl, grownCap_ge _ _ _ _, by unfold maxLen; omega, fun _ => ⟨w.heap.size, 0, rfl, fun j u hj => ?_⟩⟩, ?_⟩
  · have hjl : j < s.size := by have := (List.getElem?_eq_some_iff.1 hj).1; rw [bs_length, tb_length] at this; exact this
    rw [bs_at _ j (by rw [tb_length]; exact hjl)] at hj
    simp only [Option.some.injEq] at hj
    subst hj
    rw [Nat.zero_add, Lib.bytesWorld_cell w e s j hjl]
    have hj2 : j < s.data.toList.length := by rw [Array.length_toList]; exact hjl
    simp only [tb, List.getD, List.getElem?_eq_getElem hj2, Option.getD_some]
  · exact ⟨rfl, rfl, rfl, by rw [Lib.bytesWorld_size]; omega, fun j hj => Lib.bytesWorld_at_old w e s j hj⟩
end Go.Proofs.YtpgcepfecmkkaaaDoor
