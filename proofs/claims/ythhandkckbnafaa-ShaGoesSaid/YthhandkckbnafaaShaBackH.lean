/-
  Arrays of 32 bytes in memory: read whole, in a plain region and in one that draws its order.
-/
import Derived.Test.YthhandkckbnafaaShaEq
import Derived.Test.YthhandkckbnafaaShaHex
set_option linter.unusedVariables false
set_option linter.unusedSimpArgs false
namespace Go.Proofs.Ythhandkckbnafaa
open Go.RowKit Go.Proofs.YthhandkckbnafaaZ.ZA Go.Proofs.YthhandkckbnafaaW.PrintWords Go.Proofs.YthhandkckbnafaaW.PrintLast Go.Proofs.YthhandkckbnafaaW.PrintMore
/-- An array of 32 bytes lies in block g. -/
def At32 (W : World) (g : Nat) (B : List Value) : Prop := W.heap[g]? = some (.cells B.toArray 26 (0, 0)) ∧ B.length = 32
theorem load32 {W : World} {g : Nat} {B : List Value} (h : At32 W g B) : Sem.run Try.prog (Instr.loadAt 26 (.pointer (some ⟨g, 0, none⟩))) W = .ok (.agg B.toArray) W :=
  run_loadAt_mid W g 0 26 B _ (fun j v hj => by rw [blk_cell h.1 (0 + j), Nat.zero_add, List.getElem?_toArray]; exact hj) Try.underlying26 rfl (by rw [h.2]; exact size32)
theorem At32.below {W W' : World} {g : Nat} {B : List Value} (h : At32 W g B) (hb : Below W.heap.size W W') : At32 W' g B := ⟨blk_below h.1 hb, h.2⟩
theorem At32.new (W : World) (B : List Value) (h : B.length = 32) : At32 (W.alloc (.cells B.toArray 26)) W.heap.size B := ⟨heap_alloc_new W _, h⟩
theorem At32.drew {W : World} {g : Nat} {B : List Value} (h : At32 W g B) : At32 W.drew g B := h
theorem At32.alloc {W : World} {g : Nat} {B : List Value} (h : At32 W g B) (o : Obj) : At32 (W.alloc o) g B := h.below ((Below.refl _ _).alloc (Nat.le_refl _) o)
theorem below_size2 {w w1 w2 : World} (h : Below w.heap.size w w1) (k : Below w1.heap.size w1 w2) : Below w.heap.size w w2 := Go.Proofs.Ythhandkckbnafaa.below_size h k
theorem exec_load {P : Program} {o : Oper} {a : Act} {w : World} {ty : TypeId} {x : Operand} {g : Nat} {v : Value} (ho : o.op = .load ty x) (hx : a.eval x = .pointer (some ⟨g, 0, none⟩)) (hl : Sem.run P (Instr.loadAt ty (.pointer (some ⟨g, 0, none⟩))) w = .ok v w) : (execOp a.eval o).run P w = .ok (.value v) w := by
  unfold execOp
  simp only [ho, hx]
  simp [hl]
theorem wpList_load32 {w : World} {ops : Array Oper} {rest : List Oper} {op : Oper} {a : Act} {Q : Exit → Act → World → Prop} (x : Operand) (g : Nat) (D : List Value) (hl : Sem.run Try.prog (Instr.loadAt 26 (.pointer (some ⟨g, 0, none⟩))) w = .ok (.agg D.toArray) w) (hgd : op.guard = none) (ho : op.op = .load 26 x) (hx : a.eval x = .pointer (some ⟨g, 0, none⟩))
    (h : wpList Try.prog ops Q rest (a.put op.dst (.agg D.toArray)) w) : wpList Try.prog ops Q (op :: rest) a w := by
  refine wpList_plain hgd fun K hK => ?_
  unfold Oper.wp
  rw [exec_load ho hx hl]
  exact hK _ _ h
theorem wpList_load32g {w : World} {ops : Array Oper} {rest : List Oper} {op : Oper} {a : Act} {Q : Exit → Act → World → Prop} (x : Operand) (g : Nat) (D : List Value) (hl : Sem.run Try.prog (Instr.loadAt 26 (.pointer (some ⟨g, 0, none⟩))) w = .ok (.agg D.toArray) w) (hw : Region.wanted op (yielded ops a.tmps) = true) (ho : op.op = .load 26 x) (hx : a.eval x = .pointer (some ⟨g, 0, none⟩))
    (h : wpList Try.prog ops Q rest (a.put op.dst (.agg D.toArray)) w) : wpList Try.prog ops Q (op :: rest) a w := by
  refine wpList_step fun K hK => ?_
  rw [if_pos hw]
  unfold Oper.wp
  rw [exec_load ho hx hl]
  exact hK _ _ h
theorem str_beq (a b : ByteArray) : (a == b) = decide (a = b) := by
  rw [beq_toListBytes]
  by_cases h : a = b
  · subst h; simp
  · rw [decide_eq_false h, beq_eq_false_iff_ne]
    intro h2
    rw [ByteArray.toList_eq, ByteArray.toList_eq] at h2
    exact h (by cases a; cases b; congr 1; exact Array.ext' h2)
theorem guard32 : Program.eqGuardType Try.prog Try.prog.depth 26 = false := by kernel_rfl
theorem cells32 (D : List UInt8) (h : D.length = 32) : (Try.prog.info? 26).map (·.size) = some (bs D).length := by rw [bs_length, h]; exact size32
end Go.Proofs.Ythhandkckbnafaa
