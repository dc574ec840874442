-- Laid by a program of this session (a turned copy of the print).
import Derived.Test.YtjeomkojpkienaaDoorZBx0
import Derived.Test.YtjeomkojpkienaaDoorZBx2
namespace Go.Proofs.YtjeomkojpkienaaDoorZ.ZB
open Go.RowKit Go.Proofs.YtjeomkojpkienaaDoorW.PrintWords Go.Proofs.YtjeomkojpkienaaDoorW.PrintLast Go.Proofs.YtjeomkojpkienaaDoorW.PrintMore
attribute [local go_sem] max2_int min2_int max_two min_two max_three min_three max_four min_four   -- for this text's walks alone
set_option linter.unusedVariables false
set_option linter.unusedSimpArgs false

/-! ### words_Words: function 11 -/
theorem Tabs.low {w w' : World} {n₀ : Nat} (h : Tabs w) (hb : Below n₀ w w') (hn : 2 ≤ n₀) : Tabs w' := by
  obtain ⟨h1, h2⟩ := h
  refine ⟨fun c hc => (hb.cell (p := ⟨0, c, none⟩) (by show 0 < n₀; omega)).trans (h1 c hc), fun i hi => ⟨?_, ?_⟩⟩
  · exact (hb.cell (p := ⟨1, 2 * i, none⟩) (by show 1 < n₀; omega)).trans (h2 i hi).1
  · exact (hb.cell (p := ⟨1, 2 * i + 1, none⟩) (by show 1 < n₀; omega)).trans (h2 i hi).2
/-- What a round keeps: what lay below n₀, and block Bn. -/
def KeepB (n₀ Bn : Nat) (A B : World) : Prop := Below n₀ A B ∧ B.heap[Bn]? = A.heap[Bn]?
theorem KeepB.cell {n₀ Bn : Nat} {A B : World} (h : KeepB n₀ Bn A B) {v : Value} (hc : A.cell? ⟨Bn, 0, none⟩ = some v) : B.cell? ⟨Bn, 0, none⟩ = some v := by
  rw [← hc]; simp only [World.cell?, h.2]
theorem KeepB.t {n₀ Bn : Nat} {A B C : World} (h : KeepB n₀ Bn A B) (k : KeepB n₀ Bn B C) : KeepB n₀ Bn A C := ⟨h.1.trans k.1, k.2.trans h.2⟩
theorem cell_on {A B : World} {a : Addr} {v : Value} (h : A.cell? a = some v) (hb : Below A.heap.size A B) : B.cell? a = some v := (hb.cell (World.block_lt_of_cell? A a h)).trans h
/-! ### the words of runs -/
def wcells (l : List S36) : List Value := l.flatMap fun x => [.string x.f0, .int .i64 x.f1]
theorem wcells_len (l : List S36) : (wcells l).length = l.length * 2 := by
  induction l with
  | nil => rfl
  | cons x r ih => simp only [wcells, List.flatMap_cons, List.length_append, List.length_cons, List.length_nil] at ih ⊢; omega
/-- Is a text among others? -/
def inB (l : List ByteArray) (a : ByteArray) : Bool := l.any fun x => decide (a.toList = x.toList)
theorem index_loop (l : List ByteArray) (a : ByteArray) (hl : l.length ≤ 9223372036854775807) : ∀ (d i : Nat), l.length - i = d → i ≤ l.length → ∃ k r, slices_Index_string_string.l0 k l a (l.length : Int) (i : Int) = some r ∧ decide (r ≥ 0) = inB (l.drop i) a := by
  intro d
  induction d with
  | zero =>
    intro i hd hi
    refine ⟨1, -1, ?_, ?_⟩
    · simp only [slices_Index_string_string.l0]; rw [if_neg (by omega)]
    · rw [List.drop_of_length_le (by omega)]; rfl
  | succ d ih =>
    intro i hd hi
    have hlt : i < l.length := by omega
    have hdr : l.drop i = l[i] :: l.drop (i + 1) := List.drop_eq_getElem_cons hlt
    have hrd : rdOf ByteArray.empty l (i : Int) = l[i] := by unfold rdOf; rw [Int.toNat_natCast, List.getD_eq_getElem?_getD, List.getElem?_eq_getElem hlt]; rfl
    have hw : wrap64 ((i : Int) + 1) = ((i + 1 : Nat) : Int) := by unfold wrap64; omega
    by_cases hc : a.toList = l[i].toList
    · refine ⟨1, (i : Int), ?_, ?_⟩
      · simp only [slices_Index_string_string.l0]; rw [hrd, if_pos (by omega), if_pos (by omega), if_pos (by omega), if_pos hc]
      · rw [hdr]; unfold inB; rw [List.any_cons, decide_eq_true hc, Bool.true_or]; exact decide_eq_true (by omega)
    · obtain ⟨k, r, h1, h2⟩ := ih (i + 1) (by omega) (by omega)
      refine ⟨k + 1, r, ?_, ?_⟩
      · simp only [slices_Index_string_string.l0]; rw [hrd, hw, if_pos (by omega), if_pos (by omega), if_pos (by omega), if_neg hc]; exact h1
      · rw [h2, hdr]; unfold inB; rw [List.any_cons, decide_eq_false hc, Bool.false_or]
theorem contains_some (l : List ByteArray) (a : ByteArray) (hl : l.length ≤ 9223372036854775807) : ∃ k, slices_Contains_string_string.f k l a = some (inB l a) := by
  obtain ⟨k, r, h1, h2⟩ := index_loop l a hl l.length 0 (by omega) (by omega)
  refine ⟨k, ?_⟩
  unfold slices_Contains_string_string.f slices_Index_string_string.f
  have h1' : slices_Index_string_string.l0 k l a (l.length : Int) 0 = some r := h1
  rw [h1', Option.bind_some, h2, List.drop_zero]
/-- The words that are kept, from place i on. -/
def keepW (stops : List ByteArray) : Nat → List ByteArray → List S36
  | _, [] => []
  | i, w :: r => if inB stops w = true then keepW stops (i + 1) r else ⟨w, (i : Int)⟩ :: keepW stops (i + 1) r
theorem keepW_snoc (stops : List ByteArray) : ∀ (pre : List ByteArray) (i : Nat) (x : ByteArray), keepW stops i (pre ++ [x]) = keepW stops i pre ++ (if inB stops x = true then [] else [⟨x, ((i + pre.length : Nat) : Int)⟩]) := by
  intro pre
  induction pre with
  | nil => intro i x; simp [keepW]
  | cons w r ih =>
    intro i x
    rw [List.cons_append, keepW, keepW, ih, List.length_cons, show i + 1 + r.length = i + (r.length + 1) by omega]
    split <;> rfl
theorem keepW_le (stops : List ByteArray) : ∀ (pre : List ByteArray) (i : Nat), (keepW stops i pre).length ≤ pre.length := by
  intro pre
  induction pre with
  | nil => intro i; simp [keepW]
  | cons w r ih => intro i; have := ih (i + 1); rw [keepW]; split <;> simp <;> omega
/-- The words of runs from place i on, and the error. -/
def wordsF (stops : List ByteArray) : Nat → List ByteArray → List S36 × Int
  | _, [] => ([], 0)
  | i, w :: r => if 24 < w.size then ([], 3) else if i = 48 then ([], 7) else
      if (wordsF stops (i + 1) r).2 = 0 then ((if inB stops w = true then (wordsF stops (i + 1) r).1 else ⟨w, (i : Int)⟩ :: (wordsF stops (i + 1) r).1), 0) else ([], (wordsF stops (i + 1) r).2)
theorem wordsF_all (stops : List ByteArray) : ∀ (l : List ByteArray) (i : Nat), (∀ x ∈ l, x.size ≤ 24) → i + l.length ≤ 48 → wordsF stops i l = (keepW stops i l, 0) := by
  intro l
  induction l with
  | nil => intro i _ _; rfl
  | cons w r ih =>
    intro i h1 h2
    simp only [List.length_cons] at h2
    have hw := h1 w (by simp)
    rw [wordsF, if_neg (by omega), if_neg (by omega), ih (i + 1) (fun x hx => h1 x (by simp [hx])) (by omega)]
    simp only [if_true, keepW]
theorem wordsF_stop (stops : List ByteArray) : ∀ (pre : List ByteArray) (i : Nat) (x : ByteArray) (r : List ByteArray) (e : Int), (∀ y ∈ pre, y.size ≤ 24) → i + pre.length ≤ 48 → ((24 < x.size ∧ e = 3) ∨ (x.size ≤ 24 ∧ i + pre.length = 48 ∧ e = 7)) → wordsF stops i (pre ++ x :: r) = ([], e) := by
  intro pre
  induction pre with
  | nil =>
    intro i x r e _ h2 h3
    rw [List.nil_append, wordsF]
    rcases h3 with ⟨h, rfl⟩ | ⟨h, h4, rfl⟩
    · rw [if_pos h]
    · rw [if_neg (by omega), if_pos (by simpa using h4)]
  | cons w p ih =>
    intro i x r e h1 h2 h3
    simp only [List.length_cons] at h2 h3
    have hw := h1 w (by simp)
    have := ih (i + 1) x r e (fun y hy => h1 y (by simp [hy])) (by omega) (by omega)
    rw [List.cons_append, wordsF, if_neg (by omega), if_neg (by omega), this, if_neg (by omega)]
section
open Go.Proofs.YtjeomkojpkienaaDoor hiding below_then below_size hid hidden add_plain grown_of_below
open Go.Shelf
attribute [local go_sem] Oper.semAt_some
set_option maxHeartbeats 4000000 in
set_option maxRecDepth 100000 in
/-- The iterator: each run in its order, for every loop body that keeps what lay below n₀. -/
theorem runs1_in (n : Nat) (hn : 1 ≤ n) (l Bn n₀ : Nat) (text : ByteArray) (hsz : text.size ≤ 140737488351232) (all : List ByteArray) (hall : all = (runsL (tb text)).map st) (J Jx : List ByteArray → World → Prop)
    (hJB : ∀ pre W W', J pre W → Below W.heap.size W W' → J pre W')
    (hY : ∀ pre x W, J pre W → pre.length < all.length → YieldAt Fence.wide (n - 1) Tryd.prog l #[.string x] W fun e W' =>
      (e = .returned (.bool true) ∧ J (pre ++ [x]) W' ∧ KeepB n₀ Bn W W') ∨ (e = .returned (.bool false) ∧ Jx (pre ++ [x]) W'))
    (W : World) (hT : Tabs W) (hn₀ : n₀ ≤ W.heap.size) (hn2 : 2 ≤ n₀) (hBn : W.cell? ⟨Bn, 0, none⟩ = some (.string text)) (h0 : J [] W) :
    CallsIn Fence.wide n Tryd.prog 35 #[.func (.yield l) #[] #[], .pointer (some ⟨Bn, 0, none⟩)] W fun e W' => (∃ v, e = .returned v) ∧
      ((∃ ys, ys = all ∧ J ys W') ∨ (∃ pre, pre <+: all ∧ Jx pre W')) := by
  refine callsIn_of_wp Tryd.func35 rfl trivial ?_ rfl
  simp only [Tryd.ntmps35, List.size_toArray, List.length_cons, List.length_nil, Nat.reduceAdd, Nat.reduceSub, Array.replicate_succ, Array.replicate_zero, List.push_toArray, List.append_toArray, List.nil_append, List.cons_append]
  have HT := hid hT
  have HA := hid hall
  have HB := hid hJB
  have HY := hid hY
  clear hT hall hJB hY
  gi_wp2_with fail
  gi_loopw [3, 4] (fun vf va wr => ∃ (f a k : Nat) (pre : List ByteArray), f ≤ a ∧ a ≤ text.size ∧ vf = .int .i64 (f : Int) ∧ va = .int .i64 (a : Int) ∧ Hid (text.size - a < k ∧ all = pre ++ (runsK k (((tb text).drop f).take (a - f)) ((tb text).drop a)).map st) ∧ J pre wr ∧ Below n₀ W wr ∧ wr.cell? ⟨Bn, 0, none⟩ = some (.string text)) (fun _ va _ => text.size - (intOf va).toNat)
  case atStart => exact ⟨0, 0, text.size + 1, [], Nat.le_refl _, Nat.zero_le _, rfl, rfl, hid ⟨by omega, by rw [HA.out]; simp [runsL, tb_length]⟩, h0, Below.refl _ _, hBn⟩
  case round =>
    obtain ⟨f, a, k, pre, hfa, ha, rfl, rfl, hI, hJ, hb, hc⟩ := hrel
    by_cases hlt : a < text.size
    · have hTw := hid (Tabs.low HT.out hb (by omega))
      obtain ⟨l0, hl0⟩ : ∃ l0, (tb text).drop a = l0 := ⟨_, rfl⟩
      have hl1 : l0 ≠ [] := by intro e; have := congrArg List.length hl0; rw [List.length_drop, tb_length, e] at this; simp at this; omega
      obtain ⟨c, hc1⟩ : ∃ c, (nxt l0).1 = c := ⟨_, rfl⟩
      obtain ⟨m, hm1⟩ : ∃ m, (nxt l0).2 = m := ⟨_, rfl⟩
      have hn3 : nextB text (a : Int) = ((c : Int), (m : Int)) := by rw [nextB_nat, hl0, hc1, hm1]
      have hm4 : m ≤ 4 := by rw [← hm1]; exact (nxt_le l0).2
      have hadv := adv_le l0 hl1
      rw [← hl0, List.length_drop, tb_length, hl0] at hadv
      have hadv2 : adv l0 = max m 1 := by unfold adv; rw [hm1]
      rw [hadv2] at hadv
      obtain ⟨lb, hlb⟩ : ∃ b, letterB (c : Int) = b := ⟨_, rfl⟩
      have HD := hid (show (tb text).drop a = l0 ∧ (nxt l0).1 = c ∧ (nxt l0).2 = m ∧ adv l0 = max m 1 from ⟨hl0, hc1, hm1, hadv2⟩)
      clear hl0 hc1 hm1 hadv2
      have hn2 := hn3
      clear hn3
      have HN := hid hn2
      have HL := hid hlb
      clear hn2 hlb
      obtain ⟨k, rfl⟩ : ∃ j, k = j + 1 := ⟨k - 1, by have := hI.out.1; omega⟩
      have hx0 : tb (text.extract f a) = ((tb text).drop f).take (a - f) := by simp [tb]
      have hx1 : smallT (text.extract f a) = st (smallL (((tb text).drop f).take (a - f))) := by unfold smallT; rw [hx0]
      have hx2 : (text.extract f a).size ≤ 140737488355328 := by rw [← tb_length, hx0, List.length_take, List.length_drop, tb_length]; omega
      have hx3 : utf_Small.f (text.extract f a) = some (smallT (text.extract f a)) := by unfold utf_Small.f; rw [if_pos hx2]
      have HX1 := hid hx1
      have HX3 := hid hx3
      have hmx : ((a : Int) + if (m : Int) < 1 then 1 else (m : Int)) = ((a + max m 1 : Nat) : Int) := by split <;> omega
      have HM := hid hmx
      clear hx0 hx1 hx2 hx3 hmx
      cases lb with
      | true =>
        have hnew : Hid (text.size - (a + max m 1) < k ∧ all = pre ++ (runsK k (((tb text).drop f).take (a + max m 1 - f)) ((tb text).drop (a + max m 1))).map st) := by
          obtain ⟨q1, q2⟩ := hI.out
          obtain ⟨d1, d2, d3, d4⟩ := HD.out
          refine ⟨by omega, ?_⟩
          rw [q2, runs_yes (tb text) f a k hfa (by rw [d1]; exact hl1) (by rw [d1, d2]; exact HL.out), d1, d4]
        gi_wp2_with (first | (refine ⟨trivial, ?_⟩; gi_at_call 36; refine (callsIn_wide.2 (utf_Next.calls text (a : Int) (c : Int) (m : Int) _ hTw.out (congrArg some HN.out))).mono ?_; rintro e w1 ⟨rfl, hb1⟩) | (refine ⟨trivial, ?_⟩; gi_at_call 31; refine (callsIn_wide.2 (utf_Letter.calls (c : Int) true _ (congrArg some HL.out))).mono ?_; rintro e w2 ⟨rfl, hb2⟩))
        refine ⟨trivial, ?_⟩
        gi_wp2_with fail
        refine ⟨fun _ h => (by cases h), ?_⟩
        gi_wp2_with fail
        have hb12 := below_step hb1 hb2
        go_roundw
        case rel => exact ⟨f, a + max m 1, k, pre, by omega, by omega, rfl, by rw [HM.out], hnew, HB.out _ _ _ hJ hb12, below_then hb (Nat.le_trans hn₀ hb.size) hb12, cell_on hc hb12⟩
        case measure => rw [HM.out]; simp only [intOf]; omega
      | false =>
        by_cases hfl : f < a
        · have hnew : Hid (∃ x, x = smallT (text.extract f a) ∧ all = pre ++ x :: (runsK k (((tb text).drop (a + max m 1)).take (a + max m 1 - (a + max m 1))) ((tb text).drop (a + max m 1))).map st ∧ text.size - (a + max m 1) < k) := by
            obtain ⟨q1, q2⟩ := hI.out
            obtain ⟨d1, d2, d3, d4⟩ := HD.out
            refine ⟨_, rfl, ?_, by omega⟩
            rw [q2, runs_no (tb text) f a k (by rw [d1]; exact hl1) (by rw [d1, d2]; exact HL.out), d1, d4, HX1.out, emit_some _ (by intro e; have := congrArg List.length e; rw [List.length_take, List.length_drop, tb_length] at this; simp at this; omega)]
            rfl
          obtain ⟨x, hx, hall2, hk2⟩ := hnew.out
          have hlen : pre.length < all.length := by rw [hall2]; simp
          have HA2 := hid hall2
          have HXX := hid hx
          clear hall2 hx hnew
          gi_wp2_with (first | (refine ⟨trivial, ?_⟩; gi_at_call 36; refine (callsIn_wide.2 (utf_Next.calls text (a : Int) (c : Int) (m : Int) _ hTw.out (congrArg some HN.out))).mono ?_; rintro e w1 ⟨rfl, hb1⟩) | (refine ⟨trivial, ?_⟩; gi_at_call 31; refine (callsIn_wide.2 (utf_Letter.calls (c : Int) false _ (congrArg some HL.out))).mono ?_; rintro e w2 ⟨rfl, hb2⟩; have hc2 := cell_on hc (below_step hb1 hb2)))
          refine ⟨trivial, ?_⟩
          gi_at_call 18
          refine (callsIn_wide.2 (utf_Small.calls _ _ _ HX3.out)).mono ?_
          rintro e w3 ⟨rfl, hb3⟩
          have hb13 := below_step (below_step hb1 hb2) hb3
          have hJ3 := HB.out _ _ _ hJ hb13
          rw [← HXX.out]
          obtain ⟨fn, tmps, assign, body, hy, hR⟩ := HY.out pre x w3 hJ3 hlen
          gi_wp2_with fail
          refine hR.mono ?_
          rintro e W3 (⟨rfl, hJ4, hk3⟩ | ⟨rfl, hJx3⟩)
          · gi_wp2_with fail
            go_roundw
            case rel => exact ⟨a + max m 1, a + max m 1, k, pre ++ [x], Nat.le_refl _, by omega, by rw [HM.out], by rw [HM.out], hid ⟨hk2, by rw [HA2.out]; simp⟩, hJ4, (below_then hb (Nat.le_trans hn₀ hb.size) hb13).trans hk3.1, hk3.cell (cell_on hc hb13)⟩
            case measure => rw [HM.out]; simp only [intOf]; omega
          · gi_wp2_with fail
            refine bodyPost_ret (results_none rfl _ _ _) rfl ?_
            exact ⟨⟨_, rfl⟩, .inr ⟨pre ++ [x], ⟨_, by rw [HA2.out, List.append_assoc]; rfl⟩, hJx3⟩⟩
        · have hfe : f = a := by omega
          have hnew : Hid (text.size - (a + max m 1) < k ∧ all = pre ++ (runsK k (((tb text).drop (a + max m 1)).take (a + max m 1 - (a + max m 1))) ((tb text).drop (a + max m 1))).map st) := by
            obtain ⟨q1, q2⟩ := hI.out
            obtain ⟨d1, d2, d3, d4⟩ := HD.out
            refine ⟨by omega, ?_⟩
            rw [q2, runs_no (tb text) f a k (by rw [d1]; exact hl1) (by rw [d1, d2]; exact HL.out), d1, d4, hfe, Nat.sub_self, List.take_zero]
            rfl
          have hfa2 : decide ((f : Int) < (a : Int)) = false := decide_eq_false (by omega)
          gi_wp2_with (first | (refine ⟨trivial, ?_⟩; gi_at_call 36; refine (callsIn_wide.2 (utf_Next.calls text (a : Int) (c : Int) (m : Int) _ hTw.out (congrArg some HN.out))).mono ?_; rintro e w1 ⟨rfl, hb1⟩) | (refine ⟨trivial, ?_⟩; gi_at_call 31; refine (callsIn_wide.2 (utf_Letter.calls (c : Int) false _ (congrArg some HL.out))).mono ?_; rintro e w2 ⟨rfl, hb2⟩))
          refine ⟨trivial, ?_⟩
          gi_wp2_with fail
          refine ⟨fun _ h => (by cases h), ?_⟩
          gi_wp2_with fail
          have hb12 := below_step hb1 hb2
          go_roundw
          case rel => exact ⟨a + max m 1, a + max m 1, k, pre, Nat.le_refl _, by omega, by rw [HM.out], by rw [HM.out], hnew, HB.out _ _ _ hJ hb12, below_then hb (Nat.le_trans hn₀ hb.size) hb12, cell_on hc hb12⟩
          case measure => rw [HM.out]; simp only [intOf]; omega
    · have hae : a = text.size := by omega
      obtain ⟨k, rfl⟩ : ∃ j, k = j + 1 := ⟨k - 1, by have := hI.out.1; omega⟩
      have hend := runs_end (tb text) f k a (by rw [tb_length]; omega)
      have hI2 := hI.out.2
      rw [hend] at hI2
      by_cases hfl : f < text.size
      · have hx0 : tb (text.extract f text.size) = (tb text).drop f := by
          have : (text.extract f text.size) = ⟨((tb text).drop f).toArray⟩ := by
            apply ByteArray.ext
            apply Array.ext'
            simp [tb, List.take_of_length_le]
          rw [this]; rfl
        have hx2 : (text.extract f text.size).size ≤ 140737488355328 := by rw [← tb_length, hx0, List.length_drop, tb_length]; omega
        have hx3 : utf_Small.f (text.extract f text.size) = some (smallT (text.extract f text.size)) := by unfold utf_Small.f; rw [if_pos hx2]
        rw [emit_some _ (by intro e; have := congrArg List.length e; rw [List.length_drop, tb_length] at this; simp at this; omega)] at hI2
        obtain ⟨x, hx⟩ : ∃ x, x = smallT (text.extract f text.size) := ⟨_, rfl⟩
        have hall2 : all = pre ++ [x] := by rw [hI2, hx]; unfold smallT; rw [hx0]; rfl
        have hlen : pre.length < all.length := by rw [hall2]; simp
        have HX3 := hid hx3
        have HA2 := hid hall2
        have HXX := hid hx
        clear hx0 hx2 hx3 hI2 hall2 hx hend
        gi_wp2_with fail
        refine ⟨trivial, ?_⟩
        gi_at_call 18
        refine (callsIn_wide.2 (utf_Small.calls _ _ _ HX3.out)).mono ?_
        rintro e w3 ⟨rfl, hb3⟩
        have hJ3 := HB.out _ _ _ hJ hb3
        rw [← HXX.out]
        obtain ⟨fn, tmps, assign, body, hy, hR⟩ := HY.out pre x w3 hJ3 hlen
        gi_wp2_with fail
        refine hR.mono ?_
        rintro e W3 (⟨rfl, hJ4, hk3⟩ | ⟨rfl, hJx3⟩)
        · gi_wp2_with fail
          go_end0
          exact ⟨⟨_, rfl⟩, .inl ⟨pre ++ [x], HA2.out.symm, hJ4⟩⟩
        · gi_wp2_with fail
          go_end0
          exact ⟨⟨_, rfl⟩, .inr ⟨pre ++ [x], by rw [HA2.out]; exact List.prefix_refl _, hJx3⟩⟩
      · have hI3 : all = pre := by
          rw [hI2, List.drop_of_length_le (by rw [tb_length]; omega)]
          simp [emit]
        have HI3 := hid hI3
        clear hI2 hI3 hend
        gi_wp2_with fail
        go_end0
        exact ⟨⟨_, rfl⟩, .inl ⟨pre, HI3.out.symm, hJ⟩⟩
theorem runs_stops (n : Nat) (hn : 1 ≤ n) (Bn n₀ : Nat) (text : ByteArray) (hsz : text.size ≤ 140737488351232) (w : World) (hT : Tabs w) (hn2 : 2 ≤ n₀) (hn₀ : n₀ ≤ w.heap.size) (hBn : w.cell? ⟨Bn, 0, none⟩ = some (.string text)) :
    SeqStopsK Fence.wide n Tryd.prog 35 #[.pointer (some ⟨Bn, 0, none⟩)] (fun x : ByteArray => #[Value.string x]) (KeepB n₀ Bn) (fun ys => ys = (runsL (tb text)).map st) (fun pre => pre <+: (runsL (tb text)).map st) ((runsL (tb text)).map st).length w := fun l J Jx W hW hJ _ hY h0 =>
  runs1_in n hn l Bn n₀ text hsz _ rfl J Jx (fun pre A B h hb => hJ pre A B none h (grown_of_below hb none) (by simp)) hY W (hT.below hW) (Nat.le_trans hn₀ hW.size) hn2 (cell_on hBn hW) h0
theorem runs_in (n : Nat) (text : ByteArray) (w : World) :
    CallsIn Fence.wide n Tryd.prog 26 #[.string text] w fun e w' => e = .returned (.func (.func 35) #[] #[.pointer (some ⟨w.heap.size, 0, none⟩)]) ∧ w' = w.alloc (.cells #[.string text] 9) := by
  refine callsIn_of_wp Tryd.func26 rfl trivial ?_ rfl
  simp only [Tryd.ntmps26, List.size_toArray, List.length_cons, List.length_nil, Nat.reduceAdd, Nat.reduceSub, Array.replicate_succ, Array.replicate_zero, List.push_toArray, List.append_toArray, List.nil_append, List.cons_append]
  gi_wp2
  go_ret
  exact ⟨rfl, rfl⟩
/-- What holds between two rounds. -/
def okPre (pre : List ByteArray) : Prop := (∀ x ∈ pre, x.size ≤ 24) ∧ pre.length ≤ 48
def leftBy (pre : List ByteArray) (e : Int) : Prop := ∃ p x, pre = p ++ [x] ∧ okPre p ∧ ((24 < x.size ∧ e = 3) ∨ (x.size ≤ 24 ∧ p.length = 48 ∧ e = 7))
def InRound (stops : List ByteArray) (n₀ B3 B4 B5 B6 B7 B8 : Nat) (vs vt : Value) (w : World) (pre : List ByteArray) (W : World) : Prop :=
  (∃ v, Boxed W B6 25 v ∧ W.ownsRow n₀ 36 2 v (keepW stops 0 pre).length (wcells (keepW stops 0 pre)) ∧ True) ∧ ((Boxed W B7 3 (.int .i64 (pre.length : Int)) ∧ Boxed W B3 22 vs ∧ Boxed W B4 25 (.slice none 0 0) ∧ Boxed W B5 26 (.int .i64 0) ∧ Boxed W B8 9 vt) ∧ okPre pre) ∧ Below n₀ w W
def OutRound (n₀ B4 B5 : Nat) (w : World) (c : Code) (pre : List ByteArray) (W : World) : Prop :=
  (c = .ret ∧ ∃ e : Int, Boxed W B4 25 (.slice none 0 0) ∧ Boxed W B5 26 (.int .i64 e) ∧ leftBy pre e) ∧ Below n₀ w W
theorem boxed_turn {W W' : World} {row : Option Nat} {B : Nat} {t : TypeId} {v : Value} (h : Boxed W B t v) (hg : W.grownBy W' row) (hr : ∀ r, row = some r → ∃ o : Obj, W.heap[r]? = some o ∧ o.isCells = false) : Boxed W' B t v :=
  h.kept hg (fun e => by
    obtain ⟨o, ho, hc⟩ := hr B e.symm
    rw [show W.heap[B]? = _ from h] at ho
    cases ho
    simp [Obj.isCells] at hc)
theorem inRound_own (stops : List ByteArray) (n₀ B3 B4 B5 B6 B7 B8 : Nat) (vs vt : Value) (w W0 : World) (h : n₀ ≤ w.heap.size) (h2 : w.heap.size ≤ W0.heap.size) : OwnFrom W0.heap.size (InRound stops n₀ B3 B4 B5 B6 B7 B8 vs vt w) :=
  OwnFrom.and (Own.from (holdsRow_own n₀ B6 25 36 2 (fun pre => (keepW stops 0 pre).length) (fun pre => wcells (keepW stops 0 pre)) (fun _ _ => True)) _)
    (OwnFrom.and (Own.from (fun s A B row hs hg hr => ⟨⟨boxed_turn hs.1.1 hg hr, boxed_turn hs.1.2.1 hg hr, boxed_turn hs.1.2.2.1 hg hr, boxed_turn hs.1.2.2.2.1 hg hr, boxed_turn hs.1.2.2.2.2 hg hr⟩, hs.2⟩) _) (ownFrom_below h (by omega)))
theorem outRound_own (n₀ B4 B5 : Nat) (w W0 : World) (h : n₀ ≤ w.heap.size) (h2 : w.heap.size ≤ W0.heap.size) (c : Code) : OwnFrom W0.heap.size (OutRound n₀ B4 B5 w c) :=
  OwnFrom.and (Own.from (fun s A B row hs hg hr => ⟨hs.1, by obtain ⟨e, h1, h2, h3⟩ := hs.2; exact ⟨e, boxed_turn h1 hg hr, boxed_turn h2 hg hr, h3⟩⟩) _) (ownFrom_below h (by omega))
theorem keepB_t {n₀ Bn : Nat} {A B C : World} (h : KeepB n₀ Bn A B) (k : KeepB n₀ Bn B C) : KeepB n₀ Bn A C := h.t k
theorem keepB_b {n₀ Bn : Nat} {w : World} (h : n₀ ≤ w.heap.size) (hB : Bn < w.heap.size) : ∀ (W : World) (l : Nat) (o o' : Obj), w.heap.size ≤ l → W.heap[l]? = some o → o.isCells = false → o.isWalk = false → KeepB n₀ Bn W (W.putObj l o') := fun W l o o' hl ho hc hw =>
  ⟨belowK_b h W l o o' hl ho hc hw, (grownBy_putObj' W l o').block Bn (Nat.lt_trans (Nat.lt_of_lt_of_le hB hl) (Array.getElem?_eq_some_iff.1 ho).1) (fun e => by have := Option.some.inj e; omega)⟩
theorem two_new (w : World) (x y : Value) (t : TypeId) : ∀ j u, [x, y][j]? = some u → (w.alloc (.cells #[x, y] t)).cell? ((⟨w.heap.size, 0, none⟩ : Addr).add j) = some u :=
  fun j u hj => World.news_of_block (World.alloc_heap_new w _) j u (by simpa using hj)
theorem round_end (stops : List ByteArray) (n₀ D B3 B4 B5 M : Nat) (vs vt : Value) (w W W4 : World) (pre : List ByteArray) (x : ByteArray) (v4 : Value) (h3 : B3 < M) (h4 : B4 < M) (h5 : B5 < M) (h0 : n₀ ≤ M)
    (hk : KeepsFrom D W W4) (hb : Below n₀ W W4) (hv4 : Boxed W4 M 25 v4) (hrow4 : W4.ownsRow n₀ 36 2 v4 (keepW stops 0 (pre ++ [x])).length (wcells (keepW stops 0 (pre ++ [x]))))
    (b7 : Boxed W4 (M + 1) 3 (.int .i64 (pre.length : Int))) (b3 : Boxed W4 B3 22 vs) (b4 : Boxed W4 B4 25 (.slice none 0 0)) (b5 : Boxed W4 B5 26 (.int .i64 0)) (b8 : Boxed W4 (M + 1 + 1) 9 vt) (b8W : Boxed W (M + 1 + 1) 9 vt)
    (hok : okPre (pre ++ [x])) (hB4 : Below n₀ w W4) :
    KeepsFrom D W (W4.setCell ⟨M + 1, 0, none⟩ (.int .i64 ((pre.length : Int) + 1))) ∧ KeepB n₀ (M + 1 + 1) W (W4.setCell ⟨M + 1, 0, none⟩ (.int .i64 ((pre.length : Int) + 1))) ∧ InRound stops n₀ B3 B4 B5 M (M + 1) (M + 1 + 1) vs vt w (pre ++ [x]) (W4.setCell ⟨M + 1, 0, none⟩ (.int .i64 ((pre.length : Int) + 1))) := by
  have hg := grownBy_setCell' W4 (M + 1) (.int .i64 ((pre.length : Int) + 1))
  have b8' := b8.kept hg (by simp)
  have e7 : (.int .i64 ((pre.length : Int) + 1) : Value) = .int .i64 ((pre ++ [x]).length : Int) := by rw [List.length_append]; rfl
  refine ⟨hk.trans ((KeepsOthers.setCell _ _ _).from _), ⟨hb.setCell (p := ⟨M + 1, 0, none⟩) (by show n₀ ≤ M + 1; omega) _, b8'.trans b8W.symm⟩, ⟨v4, hv4.kept hg (by simp), hrow4.kept hg (.inr (b7.not_row (by decide) hrow4).symm), trivial⟩, ⟨⟨?_, b3.kept hg (by simp; omega), b4.kept hg (by simp; omega), b5.kept hg (by simp; omega), b8'⟩, hok⟩, hB4.setCell (p := ⟨M + 1, 0, none⟩) (by show n₀ ≤ M + 1; omega) _⟩
  rw [← e7]
  exact b7.set _
set_option maxHeartbeats 8000000 in
set_option maxRecDepth 100000 in
theorem words_in (n : Nat) (hn : 3 ≤ n) (text : ByteArray) (A1 : Option Addr) (c1 : Nat) (l1 : List ByteArray) (w : World) (hr1 : Kd.C Kd.string w A1 l1.length l1) (hc1 : l1.length ≤ c1) (hT : Tabs w) (hw2 : 2 ≤ w.heap.size) (hsz : text.size ≤ 140737488351232) (hmay : utf_May.f text = some true) (all : List ByteArray) (hall : all = (runsL (tb text)).map st) (R1 : List S36) (R2 : Int) (hres : wordsF l1 0 all = (R1, R2)) :
    CallsIn Fence.wide n Tryd.prog 11 #[.string text, .slice A1 l1.length c1] w fun e w' => ∃ v0_ : Value, e = .returned (.tuple #[v0_, .int .i64 R2]) ∧ w'.ownsRow w.heap.size 36 2 v0_ R1.length (wcells R1) ∧ Below w.heap.size w w' := by
  have HT := hid hT
  have HR := hid hr1
  have HMay := hid hmay
  have HAll := hid hall
  have HRes := hid hres
  clear hT hr1 hmay hall hres
  have h1 : 1 ≤ n := by omega
  obtain ⟨i0, hi, iz0, iz1, iz2⟩ := info_parts info36
  refine callsIn_of_wp_marks Tryd.func11 rfl trivial ?_ rfl
  simp only [Tryd.ntmps11, List.size_toArray, List.length_cons, List.length_nil, Nat.reduceAdd, Nat.reduceSub, Array.replicate_succ, Array.replicate_zero, List.push_toArray, List.append_toArray, List.nil_append, List.cons_append]
  gi_wp2_with fail
  have hBa : Below w.heap.size w (((w.alloc (.cells #[.slice A1 l1.length c1] 22)).alloc (.cells #[.slice none 0 0] 25)).alloc (.cells #[.int .i64 0] 26)) := (((Below.refl w.heap.size w).alloc (Nat.le_refl _) _).alloc (by simp) _).alloc (by simp; omega) _
  have b3 := ((Boxed.new w 22 (.slice A1 l1.length c1)).alloc (.cells #[.slice none 0 0] 25)).alloc (.cells #[.int .i64 0] 26)
  have b4 := (Boxed.new (w.alloc (.cells #[.slice A1 l1.length c1] 22)) 25 (.slice none 0 0)).alloc (.cells #[.int .i64 0] 26)
  have b5 := Boxed.new ((w.alloc (.cells #[.slice A1 l1.length c1] 22)).alloc (.cells #[.slice none 0 0] 25)) 26 (.int .i64 0)
  rw [World.size_alloc] at b4 b5
  rw [World.size_alloc] at b5
  refine ⟨trivial, ?_⟩
  gi_at_call 25
  refine (callsIn_wide.2 (utf_May.calls text true _ (HT.out.below hBa) HMay.out)).mono ?_
  rintro e w1 ⟨rfl, hb1⟩
  have b3 := b3.kept (grown_of_below hb1 none) (by simp)
  have b4 := b4.kept (grown_of_below hb1 none) (by simp)
  have b5 := b5.kept (grown_of_below hb1 none) (by simp)
  have hBb : Below w.heap.size w w1 := below_step hBa hb1
  have hz1 : w.heap.size + 3 ≤ w1.heap.size := by have := hb1.size; simp at this; omega
  clear hb1 hBa
  gi_wp2_with fail
  refine ⟨trivial, ?_⟩
  gi_at_call 26
  refine (runs_in _ _ _).mono ?_
  rintro e w2 ⟨rfl, rfl⟩
  gi_wp2_with fail
  have b6 := ((Boxed.new w1 25 (.slice none 0 0)).alloc (.cells #[.int .i64 0] 3)).alloc (.cells #[.string text] 9)
  have b7 := (Boxed.new (w1.alloc (.cells #[.slice none 0 0] 25)) 3 (.int .i64 0)).alloc (.cells #[.string text] 9)
  have b8 := Boxed.new ((w1.alloc (.cells #[.slice none 0 0] 25)).alloc (.cells #[.int .i64 0] 3)) 9 (.string text)
  rw [World.size_alloc] at b7 b8
  rw [World.size_alloc] at b8
  have b3 := ((b3.alloc (.cells #[.slice none 0 0] 25)).alloc (.cells #[.int .i64 0] 3)).alloc (.cells #[.string text] 9)
  have b4 := ((b4.alloc (.cells #[.slice none 0 0] 25)).alloc (.cells #[.int .i64 0] 3)).alloc (.cells #[.string text] 9)
  have b5 := ((b5.alloc (.cells #[.slice none 0 0] 25)).alloc (.cells #[.int .i64 0] 3)).alloc (.cells #[.string text] 9)
  have hB0 : Below w.heap.size w (((w1.alloc (.cells #[.slice none 0 0] 25)).alloc (.cells #[.int .i64 0] 3)).alloc (.cells #[.string text] 9)) := ((hBb.alloc (by omega) _).alloc (by simp; omega) _).alloc (by simp; omega) _
  obtain ⟨W0, hW0⟩ : ∃ W0, ((w1.alloc (.cells #[.slice none 0 0] 25)).alloc (.cells #[.int .i64 0] 3)).alloc (.cells #[.string text] 9) = W0 := ⟨_, rfl⟩
  have hzW : W0.heap.size = w1.heap.size + 3 := by rw [← hW0]; simp
  rw [hW0] at b3 b4 b5 b6 b7 b8 hB0 ⊢
  clear hW0
  obtain ⟨M, hM⟩ : ∃ M, M = w1.heap.size := ⟨_, rfl⟩
  rw [← hM] at b6 b7 b8 hz1 hzW ⊢
  clear hBb hM
  have hTW := hid (HT.out.below hB0)
  refine wpIn_rangeFunc_ownG rfl h1 (gf := 35) (lb := #[.pointer (some ⟨M + 1 + 1, 0, none⟩)]) rfl trivial (enters_of Tryd.func35 (by kernel_rfl) rfl)
    (runs_stops (n - 1) (by omega) (M + 1 + 1) w.heap.size text hsz W0 hTW.out hw2 hB0.size b8.cell) keepB_t (keepB_b hB0.size (by omega)) (Below.refl _ _) (fun _ => rfl)
    (InRound l1 w.heap.size w.heap.size (w.heap.size + 1) (w.heap.size + 1 + 1) M (M + 1) (M + 1 + 1) (.slice A1 l1.length c1) (.string text) w)
    (OutRound w.heap.size (w.heap.size + 1) (w.heap.size + 1 + 1) w)
    (inRound_own l1 _ _ _ _ _ _ _ _ _ w W0 (Nat.le_refl _) hB0.size)
    (outRound_own _ _ _ w W0 (Nat.le_refl _) hB0.size)
    ⟨⟨_, b6, World.ownsRow_nil _ _ _ _, trivial⟩, ⟨⟨b7, b3, b4, b5, b8⟩, by constructor <;> simp⟩, hB0⟩
    (fun x => { tmps := #[.string text, .slice A1 l1.length c1, undef, .pointer (some ⟨w.heap.size, 0, none⟩), .pointer (some ⟨w.heap.size + 1, 0, none⟩), .pointer (some ⟨w.heap.size + 1 + 1, 0, none⟩), .pointer (some ⟨M, 0, none⟩), .pointer (some ⟨M + 1, 0, none⟩), .string x, .string text, .bool true, .bool false, .string text, .func (.func 35) #[] #[.pointer (some ⟨M + 1 + 1, 0, none⟩)], .string x, undef, undef, undef, undef, undef, undef, undef, undef, undef, undef, undef, undef, undef, undef, undef, undef, undef, undef, undef, undef, undef], defers := [] }) ?assign ?body ?done ?stop
  case assign =>
    intro l x W K hK
    gi_wp2
    exact hK
  case body =>
    rintro l pre x W hI hlt
    have HI := hid hI
    have hnR : l1.length ≤ 9223372036854775807 := HR.out.2.1
    obtain ⟨⟨v, hv, hrow, _⟩, ⟨⟨b7', b3', b4', b5', b8'⟩, hok⟩, hB⟩ := hI
    have c3 := b3'.cell
    have c4 := b4'.cell
    have f4 := b4'.frozen
    have c7 := b7'.cell
    have f7 := b7'.frozen
    have b5s := b5'.kept (grownBy_setCell' W (w.heap.size + 1) (.slice none 0 0)) (by simp)
    have c5 := b5s.cell
    have f5 := b5s.frozen
    have hzB := hB.size
    have HOK := hid hok
    have hp48 := hok.2
    clear hok
    by_cases hx24 : 24 < x.size
    · gi_wp2_with fail
      exact ⟨((KeepsOthers.setCell _ _ _).trans (KeepsOthers.setCell _ _ _)).from _, ⟨rfl, 3, (b4'.set _).kept (grownBy_setCell' _ _ _) (by simp), b5s.set _, pre, x, rfl, HOK.out, .inl ⟨hx24, rfl⟩⟩, (hB.setCell (p := ⟨w.heap.size + 1, 0, none⟩) (by simp) _).setCell (p := ⟨w.heap.size + 1 + 1, 0, none⟩) (by simp; omega) _⟩
    by_cases hp : pre.length = 48
    · have hp2 : ((pre.length : Int) == 48) = true := by rw [hp]; rfl
      gi_wp2_with fail
      exact ⟨((KeepsOthers.setCell _ _ _).trans (KeepsOthers.setCell _ _ _)).from _, ⟨rfl, 7, (b4'.set _).kept (grownBy_setCell' _ _ _) (by simp), b5s.set _, pre, x, rfl, HOK.out, .inr ⟨by omega, hp, rfl⟩⟩, (hB.setCell (p := ⟨w.heap.size + 1, 0, none⟩) (by simp) _).setCell (p := ⟨w.heap.size + 1 + 1, 0, none⟩) (by simp; omega) _⟩
    have hp2 : ((pre.length : Int) == 48) = false := by
      cases hq : ((pre.length : Int) == 48) with
      | false => rfl
      | true => exact absurd (by have := eq_of_beq hq; omega) hp
    obtain ⟨kc, hkc⟩ := contains_some l1 x hnR
    obtain ⟨ib, hib⟩ : ∃ b, inB l1 x = b := ⟨_, rfl⟩
    rw [hib] at hkc
    have HK := hid hkc
    have HIB := hid hib
    have hok2 : okPre (pre ++ [x]) := ⟨fun y hy => by
      rcases List.mem_append.1 hy with h | h
      · exact HOK.out.1 y h
      · rw [List.mem_singleton.1 h]; omega, by rw [List.length_append]; simp; omega⟩
    have HOK2 := hid hok2
    have hlen2 : (pre ++ [x]).length = pre.length + 1 := by simp
    have HLEN := hid hlen2
    clear hkc hib hok2 hlen2
    clear c4 f4 c5 f5 b5s
    gi_wp2_with fail
    refine ⟨trivial, fun _ => by omega, ?_⟩
    gi_at_call 27
    refine (CallsIn.inRound l (callsIn_wide.2 (slices_Contains_string_string.calls kc A1 c1 l1 x ib _ (Kd.C_below HR.out hB) hc1 HK.out))).mono ?_
    rintro e w3 ⟨rfl, hd3⟩
    obtain ⟨nd, hd4⟩ := hd3.out
    have hg3 : W.grownBy w3 none := by rw [hd4]; exact grown_drewN (World.grownBy.refl _ _) _
    have hI3 := inRound_own l1 _ _ _ _ _ _ _ _ _ w W0 (Nat.le_refl _) hB0.size _ _ _ _ HI.out hg3 (by simp)
    clear c3 c7 f7 hd3 hd4
    obtain ⟨⟨v3, hv3, hrow3, _⟩, ⟨⟨b73, b33, b43, b53, b83⟩, _⟩, hB3⟩ := hI3
    have hz3 := hB3.size
    have c73 := b73.cell
    have f73 := b73.frozen
    have c63 := hv3.cell
    have f63 := hv3.frozen
    have hkf3 : KeepsFrom W0.heap.size W w3 := (KeepsOthers.of_grownBy hg3 fun j o ej _ => by cases ej).from _
    have hbw3 : Below w.heap.size W w3 := (Below.refl w.heap.size W).grown hg3 hzB (fun j e => by cases e)
    cases ib with
    | true =>
      have hke : keepW l1 0 (pre ++ [x]) = keepW l1 0 pre := by rw [keepW_snoc, if_pos HIB.out, List.append_nil]
      gi_wp2_with fail
      exact round_end l1 w.heap.size _ _ _ _ M _ _ w W w3 pre x v3 (by omega) (by omega) (by omega) (by omega) hkf3 hbw3 hv3 (by rw [hke]; exact hrow3) b73 b33 b43 b53 b83 b8' HOK2.out hB3
    | false =>
      have hke : keepW l1 0 (pre ++ [x]) = keepW l1 0 pre ++ [⟨x, (pre.length : Int)⟩] := by rw [keepW_snoc, if_neg (by rw [HIB.out]; simp), Nat.zero_add]
      have HKE := hid hke
      have hkl := keepW_le l1 pre 0
      clear hke
      have hnew1 := two_new w3 (.string x) (.int .i64 (pre.length : Int)) 36
      have hnew2 : ∀ u ∈ ([.string x, .int .i64 (pre.length : Int)] : List Value), u.oneCell' = true := by intro u hu; simp at hu; rcases hu with rfl | rfl <;> rfl
      have hnew3 : (keepW l1 0 pre).length + 1 ≤ maxLen := by unfold maxLen; omega
      have hnew4 : ((keepW l1 0 pre).length + 1) * 24 ≤ 140737488355328 := by omega
      have hnew5 : w.heap.size ≤ (w3.alloc (.cells #[.string x, .int .i64 (pre.length : Int)] 36)).heap.size := by simp; omega
      have hMM : w.heap.size ≤ M := by omega
      gi_wp2_with (gi_at_builtin; refine wpListIn_append_own _ rfl _ _ 25 rfl w.heap.size 36 i0 (.agg #[.string ⟨#[]⟩, .int .i64 0]) 2 24 Tryd.underlying25 hi iz0 iz1 iz2 rfl (by decide) _ _ _ rfl (hrow3.alloc _) ⟨w3.heap.size, 0, none⟩ 1 1 [.string x, .int .i64 (pre.length : Int)] rfl rfl hnew1 hnew2 hnew3 hnew4 hnew5 ?_; intro v' w4 hown' hgrow _; obtain ⟨g', cap', rfl⟩ := ownsRow_succ hown'; obtain ⟨hv1, hv2, hr2, hk2, hb2⟩ := hv3.appended (by decide) hrow3 hz3 hMM hown' hgrow; have hc1 := hv1.cell; have hf1 := hv1.frozen; have n73 := (((b73.alloc _).kept hgrow (b73.not_row (by decide) hrow3)).kept (grownBy_setCell' w4 M (.slice (some ⟨g', 0, none⟩) ((keepW l1 0 pre).length + 1) cap')) (by simp)); have c74 := n73.cell; have f74 := n73.frozen; have n33 := (((b33.alloc _).kept hgrow (b33.not_row (by decide) hrow3)).kept (grownBy_setCell' w4 M (.slice (some ⟨g', 0, none⟩) ((keepW l1 0 pre).length + 1) cap')) (by simp; omega)); have n43 := (((b43.alloc _).kept hgrow (b43.not_row (by decide) hrow3)).kept (grownBy_setCell' w4 M (.slice (some ⟨g', 0, none⟩) ((keepW l1 0 pre).length + 1) cap')) (by simp; omega)); have n53 := (((b53.alloc _).kept hgrow (b53.not_row (by decide) hrow3)).kept (grownBy_setCell' w4 M (.slice (some ⟨g', 0, none⟩) ((keepW l1 0 pre).length + 1) cap')) (by simp; omega)); have n83 := (((b83.alloc _).kept hgrow (b83.not_row (by decide) hrow3)).kept (grownBy_setCell' w4 M (.slice (some ⟨g', 0, none⟩) ((keepW l1 0 pre).length + 1) cap')) (by simp; omega)))
      refine round_end l1 w.heap.size _ _ _ _ M _ _ w W _ pre x _ (by omega) (by omega) (by omega) (by omega) (hkf3.trans (hk2.from _)) (hbw3.trans hb2) hv2 ?_ n73 n33 n43 n53 n83 b8' HOK2.out (hB3.trans hb2)
      rw [HKE.out, List.length_append, show wcells (keepW l1 0 pre ++ [⟨x, (pre.length : Int)⟩]) = wcells (keepW l1 0 pre) ++ [.string x, .int .i64 (pre.length : Int)] by unfold wcells; rw [List.flatMap_append]; rfl]
      exact hr2
  case done =>
    rintro D ys W hD hys ⟨⟨v, hv, hrow, _⟩, ⟨⟨b7', b3', b4', b5', b8'⟩, hok⟩, hB⟩ hK
    obtain ⟨A6, q6, rfl⟩ := own_slice hrow
    have c6 := hv.cell
    have c4 := b4'.cell
    have f4 := b4'.frozen
    have hzB := hB.size
    have b5s := b5'.kept (grownBy_setCell' W (w.heap.size + 1) (.slice A6 (keepW l1 0 ys).length q6)) (by simp)
    have c5 := b5s.cell
    have f5 := b5s.frozen
    have HOK := hid hok
    have HYS := hid (hys.trans HAll.out.symm)
    clear hok hys
    gi_wp2_with fail
    obtain ⟨W5, hW5⟩ : ∃ W5, (W.setCell ⟨w.heap.size + 1, 0, none⟩ (.slice A6 (keepW l1 0 ys).length q6)).setCell ⟨w.heap.size + 1 + 1, 0, none⟩ (.int .i64 0) = W5 := ⟨_, rfl⟩
    have g1 := grownBy_setCell' W (w.heap.size + 1) (.slice A6 (keepW l1 0 ys).length q6)
    have g2 := grownBy_setCell' (W.setCell ⟨w.heap.size + 1, 0, none⟩ (.slice A6 (keepW l1 0 ys).length q6)) (w.heap.size + 1 + 1) (.int .i64 0)
    rw [hW5] at g2 ⊢
    have hK5 : W5.heap[D]? = some (.deferred (some [])) := by
      rw [g2.block D (by rw [World.size_setCell]; exact (Array.getElem?_eq_some_iff.1 hK).1) (fun e => by have := Option.some.inj e; omega), g1.block D (Array.getElem?_eq_some_iff.1 hK).1 (fun e => by have := Option.some.inj e; omega)]
      exact hK
    have d4 : Boxed W5 (w.heap.size + 1) 25 (.slice A6 (keepW l1 0 ys).length q6) := (b4'.set _).kept g2 (by simp)
    have d5 : Boxed W5 (w.heap.size + 1 + 1) 26 (.int .i64 0) := by rw [← hW5]; exact b5s.set _
    have hB5 : Below w.heap.size w W5 := by rw [← hW5]; exact (hB.setCell (p := ⟨w.heap.size + 1, 0, none⟩) (by simp) _).setCell (p := ⟨w.heap.size + 1 + 1, 0, none⟩) (by simp; omega) _
    have hrow5 : W5.ownsRow w.heap.size 36 2 (.slice A6 (keepW l1 0 ys).length q6) (keepW l1 0 ys).length (wcells (keepW l1 0 ys)) := by
      have r1 := hrow.kept g1 (.inr (b4'.not_row (by decide) hrow).symm)
      have d5' := b5'.kept g1 (by simp)
      exact r1.kept g2 (.inr (d5'.not_row (by decide) r1).symm)
    refine ⟨by simp, .inl ⟨_, _, rfl, run_takeDeferred hK5, ?_⟩⟩
    have e4 := boxed_turn d4 (grownBy_putObj' W5 D (.deferred none)) (fun r e => by cases e; exact ⟨_, hK5, rfl⟩)
    have e5 := boxed_turn d5 (grownBy_putObj' W5 D (.deferred none)) (fun r e => by cases e; exact ⟨_, hK5, rfl⟩)
    have hwf := wordsF_all l1 ys 0 HOK.out.1 (by have := HOK.out.2; omega)
    rw [← show wordsF l1 0 all = wordsF l1 0 ys by rw [HYS.out]] at hwf
    rw [HRes.out] at hwf
    obtain ⟨q1, q2⟩ := Prod.mk.inj hwf
    have k4 := e4.cell
    have k5 := e5.cell
    refine ⟨.tuple #[.slice A6 (keepW l1 0 ys).length q6, .int .i64 0], ?_, _, by rw [q2], by rw [q1]; exact ownsRow_putObj hrow5 _ hK5 rfl, hB5.trans (belowK_b (w := w) (Nat.le_refl _) W5 D _ _ (by have := hB0.size; omega) hK5 rfl rfl)⟩
    simp [results, Tryd.f11, go_sem, k4, k5]
  case stop =>
    rintro D c pre W hD hpre ⟨⟨rfl, e, b4', b5', hl⟩, hB⟩ hK
    have HL := hid hl
    have HP := hid hpre
    clear hl hpre
    gi_wp2_with fail
    refine ⟨by simp, .inl ⟨_, _, rfl, run_takeDeferred hK, ?_⟩⟩
    have e4 := boxed_turn b4' (grownBy_putObj' W D (.deferred none)) (fun r e => by cases e; exact ⟨_, hK, rfl⟩)
    have e5 := boxed_turn b5' (grownBy_putObj' W D (.deferred none)) (fun r e => by cases e; exact ⟨_, hK, rfl⟩)
    have k4 := e4.cell
    have k5 := e5.cell
    have hwf : wordsF l1 0 all = ([], e) := by
      obtain ⟨p, x, hpx, hok, hc⟩ := HL.out
      obtain ⟨rest, hrest⟩ := HP.out
      rw [HAll.out, ← hrest, hpx, List.append_assoc]
      exact wordsF_stop l1 p 0 x rest e hok.1 (by have := hok.2; omega) (by rw [Nat.zero_add]; exact hc)
    rw [HRes.out] at hwf
    obtain ⟨q1, q2⟩ := Prod.mk.inj hwf
    refine ⟨.tuple #[.slice none 0 0, .int .i64 e], ?_, _, by rw [q2], by rw [q1]; exact World.ownsRow_nil _ _ _ _, hB.trans (belowK_b (w := w) (Nat.le_refl _) W D _ _ (by have := hB0.size; omega) hK rfl rfl)⟩
    simp [results, Tryd.f11, go_sem, k4, k5]
theorem tabs_size {w : World} (h : Tabs w) : 2 ≤ w.heap.size := by
  have h1 := World.block_lt_of_cell? w _ (h.2 0 (by omega)).1
  show 1 < w.heap.size
  exact h1
/-- The words of a text; the error. -/
def wordsB (text : ByteArray) (stops : List ByteArray) : List S36 × Int := if faultB text = (text.size : Int) then wordsF stops 0 ((runsL (tb text)).map st) else ([], 8)
def words_Words.f (a0 : ByteArray) (l1 : List ByteArray) : Option (List S36 × Int) := if a0.size ≤ 140737488351232 then some (wordsB a0 l1) else none
theorem may_is (s : ByteArray) (h : s.size ≤ 140737488351232) : utf_May.f s = some (decide (faultB s = (s.size : Int))) := by
  unfold utf_May.f utf_Fault.f
  rw [if_pos (by omega), Option.bind_some, Option.some.injEq, Bool.eq_iff_iff]
  simp
theorem wcells_reps (l : List S36) (w : World) (base : Nat) (ok : Nat → Prop) : Reps (k36.M w base ok) 2 l (wcells l) := by
  refine ⟨wcells_len l, fun j p hj => ?_⟩
  obtain ⟨hj2, rfl⟩ := List.getElem?_eq_some_iff.1 hj
  have e : ((wcells l).drop (j * 2)).take 2 = [.string l[j].f0, .int .i64 l[j].f1] := by
    clear hj
    induction l generalizing j with
    | nil => simp at hj2
    | cons x r ih =>
      cases j with
      | zero => rfl
      | succ j =>
        have := ih j (by simpa using hj2)
        rw [show wcells (x :: r) = [.string x.f0, .int .i64 x.f1] ++ wcells r from rfl, show (j + 1) * 2 = 2 + j * 2 by omega, ← List.drop_drop]
        exact this
  rw [e]
  exact k36_mkM w base ok l[j]
set_option maxHeartbeats 4000000 in
set_option maxRecDepth 100000 in
theorem words_Words.calls (a0 : ByteArray) (A1 : Option Addr) (c1 : Nat) (l1 : List ByteArray) (r1 : List S36) (r2 : Int) (w : World) (hr1 : Kd.C Kd.string w A1 l1.length l1) (hc1 : l1.length ≤ c1) (hT : Tabs w) (h : words_Words.f a0 l1 = some (r1, r2)) :
    Calls Tryd.prog 11 #[.string a0, .slice A1 l1.length c1] w fun e w' => ∃ v0_ : Value, e = .returned (.tuple #[v0_, .int .i64 r2]) ∧ Kd.R k36 36 w' w.heap.size (fun _ => True) v0_ r1 ∧ Below w.heap.size w w' := by
  unfold words_Words.f at h
  split at h
  case isFalse => cases h
  rename_i hsz
  have h' := Option.some.inj h
  clear h
  by_cases hm : faultB a0 = (a0.size : Int)
  · rw [wordsB, if_pos hm] at h'
    have hmay : utf_May.f a0 = some true := by rw [may_is a0 hsz, decide_eq_true hm]
    refine (callsIn_wide (n := 3)).1 ((words_in 3 (Nat.le_refl _) a0 A1 c1 l1 w hr1 hc1 hT (tabs_size hT) hsz hmay _ rfl r1 r2 h').mono ?_)
    rintro e w' ⟨v, rfl, hown, hb⟩
    exact ⟨v, rfl, ⟨fun _ _ => trivial, wcells r1, hown, wcells_reps r1 w' _ _⟩, hb⟩
  · rw [wordsB, if_neg hm] at h'
    obtain ⟨rfl, rfl⟩ := Prod.mk.inj h'
    have hmay : utf_May.f a0 = some false := by rw [may_is a0 hsz, decide_eq_false hm]
    have HMay := hid hmay
    have HT := hid hT
    clear hmay hT hr1 h' hm
    have hBa : Below w.heap.size w (((w.alloc (.cells #[.slice A1 l1.length c1] 22)).alloc (.cells #[.slice none 0 0] 25)).alloc (.cells #[.int .i64 0] 26)) := (((Below.refl w.heap.size w).alloc (Nat.le_refl _) _).alloc (by simp) _).alloc (by simp; omega) _
    have b4 := (Boxed.new (w.alloc (.cells #[.slice A1 l1.length c1] 22)) 25 (.slice none 0 0)).alloc (.cells #[.int .i64 0] 26)
    have b5 := Boxed.new ((w.alloc (.cells #[.slice A1 l1.length c1] 22)).alloc (.cells #[.slice none 0 0] 25)) 26 (.int .i64 0)
    rw [World.size_alloc] at b4 b5
    rw [World.size_alloc] at b5
    go_enter Tryd.func11, Tryd.ntmps11
    go_wp2_with (go_at_call 25; refine (utf_May.calls a0 false _ (HT.out.below hBa) HMay.out).mono ?_; rintro e w1 ⟨rfl, hb1⟩; have b4 := b4.kept (grown_of_below hb1 none) (by simp); have b5 := b5.kept (grown_of_below hb1 none) (by simp); have c4 := b4.cell; have f4 := b4.frozen; have b5s := b5.kept (grownBy_setCell' w1 (w.heap.size + 1) (.slice none 0 0)) (by simp); have c5 := b5s.cell; have f5 := b5s.frozen)
    have hBb : Below w.heap.size w w1 := below_step hBa hb1
    have k4 := ((b4.set (.slice none 0 0)).kept (grownBy_setCell' (w1.setCell ⟨w.heap.size + 1, 0, none⟩ (.slice none 0 0)) (w.heap.size + 1 + 1) (.int .i64 8)) (by simp)).cell
    have k5 := (b5s.set (.int .i64 8)).cell
    refine bodyPost_ret (v := .tuple #[.slice none 0 0, .int .i64 8]) (by simp [results, Tryd.f11, go_sem, k4, k5]) rfl ⟨_, rfl, Kd.R_nil _ _ _ _ _, (hBb.setCell (p := ⟨w.heap.size + 1, 0, none⟩) (by simp) _).setCell (p := ⟨w.heap.size + 1 + 1, 0, none⟩) (by simp; omega) _⟩
end


/-! ### words_One: function 15 -/
def words_One.f (a0 : ByteArray) (l1 : List ByteArray) : Option (Bool) := (words_Words.f a0 l1).bind fun bt107 => (if bt107.2 = 0 then (if (bt107.1.length : Int) = 1 then (if 0 < (bt107.1.length : Int) then (some (((rd_T36 bt107.1 0).f0).toList == a0.toList)) else (none)) else (some false)) else (some false))
set_option maxHeartbeats 8000000 in
set_option maxRecDepth 100000 in
theorem words_One.calls (a0 : ByteArray) (A1 : Option Addr) (c1 : Nat) (l1 : List ByteArray) (r : Bool) (w : World) (hr1 : Kd.C Kd.string w A1 l1.length l1) (hc1 : l1.length ≤ c1) (hT : Tabs w) (h : words_One.f a0 l1 = some r) :
    Calls Tryd.prog 15 #[.string a0, .slice A1 l1.length c1] w fun e w' => e = .returned (.bool r) ∧ Below w.heap.size w w' := by
  have HLT := Aside0.mk hT
  clear hT
  have HR1 := Aside0.mk hr1
  have HC1 := Aside0.mk hc1
  clear hr1 hc1
  have HB := Aside0.mk (Below.refl w.heap.size w)
  have H : ((words_Words.f a0 l1).bind fun bt107 => (if bt107.2 = 0 then (if (bt107.1.length : Int) = 1 then (if 0 < (bt107.1.length : Int) then (some (((rd_T36 bt107.1 0).f0).toList == a0.toList)) else (none)) else (some false)) else (some false))) = some r := h
  clear h
  replace H := Option.bind_eq_some_iff.mp H
  obtain ⟨⟨t107, t108⟩, A30, H⟩ := H
  replace H : (if t108 = 0 then (if (t107.length : Int) = 1 then (if 0 < (t107.length : Int) then (some (((rd_T36 t107 0).f0).toList == a0.toList)) else (none)) else (some false)) else (some false)) = some r := H
  have A3 := Aside0.mk A30
  clear A30
  by_cases c4 : t108 = 0
  · rw [if_pos c4] at H
    have c4b0 : (t108 == 0) = true := beq_iff_eq.mpr c4
    have c4b1 : (t108 != 0) = false := bne_eq_false_iff_eq.mpr c4
    clear c4
    by_cases c5 : (t107.length : Int) = 1
    · rw [if_pos c5] at H
      have c5b0 : ((t107.length : Int) == 1) = true := beq_iff_eq.mpr c5
      have c5b1 : ((t107.length : Int) != 1) = false := bne_eq_false_iff_eq.mpr c5
      clear c5
      by_cases c6 : 0 < (t107.length : Int)
      · rw [if_pos c6] at H
        have c6b0 : decide (0 < (t107.length : Int)) = true := decide_eq_true c6
        have c6b1 : decide (0 < t107.length) = true := decide_eq_true (by omega)
        clear c6
        obtain rfl := Option.some.inj H
        go_enter Tryd.func15, Tryd.ntmps15
        go_wp2_with (first | ((with_reducible refine gate_callee (f := 11) rfl ?_); refine goesL_ (some 10) rfl rfl Tryd.func11 (by kernel_rfl) rfl #[.string a0, .slice A1 l1.length c1] rfl (by (try simp only [List.map_toArray, List.map_cons, List.map_nil]); first | done | rfl | (simp only [List.length_drop, List.length_take]; rfl)) ?_; (with_reducible refine (words_Words.calls a0 _ _ l1 t107 t108 _ ?side1 ?side2 ?side3 A3.out).mono ?_); (case side1 => repeat (first | exact HR1.out | (with_reducible refine Kd.C_alloc ?_ _) | (with_reducible refine Kd.C_drewN ?_ _) | (with_reducible refine Kd.C_drew ?_))); (case side2 => exact HC1.out); (case side3 => repeat (first | exact HLT.out | (with_reducible refine Tabs.alloc ?_ _) | (with_reducible refine Tabs.drewN ?_ _) | (with_reducible refine Tabs.drew ?_))); rintro e w7 ⟨v109, rfl, ho0, hb⟩; refine ⟨_, rfl, ?_⟩; have n0_ := Aside0.mk (Kd.R_lower ho0 (below_size (by repeat (first | (with_reducible first | exact HB.out | apply below_alloc | apply pw_below_drewN | apply below_drew1) | exact HB.out)))); have n1_ := Aside0.mk (below_step (by repeat (first | (with_reducible first | exact HB.out | apply below_alloc | apply pw_below_drewN | apply below_drew1) | exact HB.out)) hb); clear HB; have HO110 := n0_; have HB := n1_; clear n0_ n1_; (try clear hb); (try clear hb2); (try clear hk); (try clear hi); (try clear ho0); obtain ⟨Ao8, co8, eo8⟩ := Kd.R_slice HO110.out; subst eo8; have p111 : 0 ≤ (0 : Int) := (by omega); have q111 : 0 < (t107.length : Int) := of_decide_eq_true (by first | (with_reducible assumption) | assumption); obtain ⟨ad111, e111, hx111_0, hx111_1⟩ := at_T36 (Kd.R_reads' HO110.out).2.2 0 p111 q111; cases e111; have qi111 : (0 < t107.length) = True := eq_true (by omega); (try rw [show ((0 : Int)).toNat = 0 from rfl] at hx111_0); (try rw [show 0 * 2 = 0 from rfl] at hx111_0); (try rw [Addr.add_zero'] at hx111_0); (try rw [show ((0 : Int)).toNat = 0 from rfl] at hx111_1); (try rw [show 0 * 2 = 0 from rfl] at hx111_1); (try rw [Addr.add_zero'] at hx111_1); replace p111 := eq_true p111; replace q111 := eq_true q111))
        go_ret
        exact ⟨by first | rfl | (simp [errW_none, errW_some] <;> rfl) | (simp [*, errW_none, errW_some] <;> rfl), by repeat (first | (with_reducible first | exact HB.out | apply below_alloc | apply pw_below_drewN | apply below_drew1) | exact HB.out)⟩
      · rw [if_neg c6] at H
        exact absurd H (by simp)
    · rw [if_neg c5] at H
      have c5b0 : ((t107.length : Int) == 1) = false := beq_eq_false_iff_ne.mpr c5
      have c5b1 : ((t107.length : Int) != 1) = true := bne_iff_ne.mpr c5
      obtain rfl := Option.some.inj H
      go_enter Tryd.func15, Tryd.ntmps15
      go_wp2_with (first | ((with_reducible refine gate_callee (f := 11) rfl ?_); refine goesL_ (some 10) rfl rfl Tryd.func11 (by kernel_rfl) rfl #[.string a0, .slice A1 l1.length c1] rfl (by (try simp only [List.map_toArray, List.map_cons, List.map_nil]); first | done | rfl | (simp only [List.length_drop, List.length_take]; rfl)) ?_; (with_reducible refine (words_Words.calls a0 _ _ l1 t107 t108 _ ?side1 ?side2 ?side3 A3.out).mono ?_); (case side1 => repeat (first | exact HR1.out | (with_reducible refine Kd.C_alloc ?_ _) | (with_reducible refine Kd.C_drewN ?_ _) | (with_reducible refine Kd.C_drew ?_))); (case side2 => exact HC1.out); (case side3 => repeat (first | exact HLT.out | (with_reducible refine Tabs.alloc ?_ _) | (with_reducible refine Tabs.drewN ?_ _) | (with_reducible refine Tabs.drew ?_))); rintro e w9 ⟨v109, rfl, ho0, hb⟩; refine ⟨_, rfl, ?_⟩; have n0_ := Aside0.mk (Kd.R_lower ho0 (below_size (by repeat (first | (with_reducible first | exact HB.out | apply below_alloc | apply pw_below_drewN | apply below_drew1) | exact HB.out)))); have n1_ := Aside0.mk (below_step (by repeat (first | (with_reducible first | exact HB.out | apply below_alloc | apply pw_below_drewN | apply below_drew1) | exact HB.out)) hb); clear HB; have HO110 := n0_; have HB := n1_; clear n0_ n1_; (try clear hb); (try clear hb2); (try clear hk); (try clear hi); (try clear ho0); obtain ⟨Ao10, co10, eo10⟩ := Kd.R_slice HO110.out; subst eo10))
      go_ret
      exact ⟨by first | rfl | (simp [errW_none, errW_some] <;> rfl) | (simp [*, errW_none, errW_some] <;> rfl), by repeat (first | (with_reducible first | exact HB.out | apply below_alloc | apply pw_below_drewN | apply below_drew1) | exact HB.out)⟩
  · rw [if_neg c4] at H
    have c4b0 : (t108 == 0) = false := beq_eq_false_iff_ne.mpr c4
    have c4b1 : (t108 != 0) = true := bne_iff_ne.mpr c4
    obtain rfl := Option.some.inj H
    go_enter Tryd.func15, Tryd.ntmps15
    go_wp2_with (first | ((with_reducible refine gate_callee (f := 11) rfl ?_); refine goesL_ (some 10) rfl rfl Tryd.func11 (by kernel_rfl) rfl #[.string a0, .slice A1 l1.length c1] rfl (by (try simp only [List.map_toArray, List.map_cons, List.map_nil]); first | done | rfl | (simp only [List.length_drop, List.length_take]; rfl)) ?_; (with_reducible refine (words_Words.calls a0 _ _ l1 t107 t108 _ ?side1 ?side2 ?side3 A3.out).mono ?_); (case side1 => repeat (first | exact HR1.out | (with_reducible refine Kd.C_alloc ?_ _) | (with_reducible refine Kd.C_drewN ?_ _) | (with_reducible refine Kd.C_drew ?_))); (case side2 => exact HC1.out); (case side3 => repeat (first | exact HLT.out | (with_reducible refine Tabs.alloc ?_ _) | (with_reducible refine Tabs.drewN ?_ _) | (with_reducible refine Tabs.drew ?_))); rintro e w11 ⟨v109, rfl, ho0, hb⟩; refine ⟨_, rfl, ?_⟩; have n0_ := Aside0.mk (Kd.R_lower ho0 (below_size (by repeat (first | (with_reducible first | exact HB.out | apply below_alloc | apply pw_below_drewN | apply below_drew1) | exact HB.out)))); have n1_ := Aside0.mk (below_step (by repeat (first | (with_reducible first | exact HB.out | apply below_alloc | apply pw_below_drewN | apply below_drew1) | exact HB.out)) hb); clear HB; have HO110 := n0_; have HB := n1_; clear n0_ n1_; (try clear hb); (try clear hb2); (try clear hk); (try clear hi); (try clear ho0)))
    go_ret
    exact ⟨by first | rfl | (simp [errW_none, errW_some] <;> rfl) | (simp [*, errW_none, errW_some] <;> rfl), by repeat (first | (with_reducible first | exact HB.out | apply below_alloc | apply pw_below_drewN | apply below_drew1) | exact HB.out)⟩

/-! ### words_MayStops: function 20 -/
def words_MayStops.l0 : Nat → List ByteArray → List ByteArray → Int → Int → Option (Bool)
  | 0, _, _, _, _ => none
  | k + 1, x0, x5, x6, x7 => if x7 < x6 then (if 0 ≤ x7 then (if x7 < (x5.length : Int) then ((words_One.f (rdOf ByteArray.empty x5 x7) ([] : List ByteArray)).bind fun t113 => (if t113 = true then (if x7 > 0 then (if 0 ≤ (wrap64 (x7 - 1)) then (if (wrap64 (x7 - 1)) < (x0.length : Int) then (if ((Op.bytesLess ((rdOf ByteArray.empty x0 (wrap64 (x7 - 1))).toList) ((rdOf ByteArray.empty x5 x7).toList)) = true) then (words_MayStops.l0 k x0 x5 x6 (wrap64 (x7 + 1))) else (some false)) else (none)) else (none)) else (words_MayStops.l0 k x0 x5 x6 (wrap64 (x7 + 1)))) else (some false))) else (none)) else (none)) else (some (decide ((x0.length : Int) ≤ 32)))
def words_MayStops.f (k : Nat) (l0 : List ByteArray) : Option (Bool) := words_MayStops.l0 k l0 l0 (l0.length : Int) 0
theorem words_MayStops.mono_l : ∀ k, (∀ y0 y1 y2 y3, LeO (words_MayStops.l0 k y0 y1 y2 y3) (words_MayStops.l0 (k + 1) y0 y1 y2 y3))
  | 0 => fun _ _ _ _ r h => by simp [words_MayStops.l0] at h
  | k + 1 => by
    have ih0 := words_MayStops.mono_l k
    · intro y0 y1 y2 y3
      unfold words_MayStops.l0
      repeat' first
      | (with_reducible exact ih0 _ _ _ _)
      | (with_reducible exact LeO.refl _)
      | (with_reducible exact LeO.none _)
      | (with_reducible refine LeO.ite ?_ ?_)
      | (with_reducible refine LeO.bind ?_ (fun _ => ?_))
      | exact ih0 _ _ _ _
      | exact LeO.none _
      | refine LeO.ite ?_ ?_
      | refine LeO.bind ?_ (fun _ => ?_)
theorem words_MayStops.mono : ∀ a0 k, LeO (words_MayStops.f k a0) (words_MayStops.f (k + 1) a0) := by
  intro a0 k
  have ih0 := words_MayStops.mono_l k
  unfold words_MayStops.f
  repeat' first
      | (with_reducible exact ih0 _ _ _ _)
      | (with_reducible exact LeO.refl _)
      | (with_reducible exact LeO.none _)
      | (with_reducible refine LeO.ite ?_ ?_)
      | (with_reducible refine LeO.bind ?_ (fun _ => ?_))
      | exact ih0 _ _ _ _
      | exact LeO.none _
      | refine LeO.ite ?_ ?_
      | refine LeO.bind ?_ (fun _ => ?_)
set_option maxHeartbeats 8000000 in
set_option maxRecDepth 100000 in
theorem words_MayStops.calls (k : Nat) (A0 : Option Addr) (c0 : Nat) (l0 : List ByteArray) (r : Bool) (w : World) (hr0 : Kd.C Kd.string w A0 l0.length l0) (hc0 : l0.length ≤ c0) (hT : Tabs w) (h : words_MayStops.f k l0 = some r) :
    Calls Tryd.prog 20 #[.slice A0 l0.length c0] w fun e w' => e = .returned (.bool r) ∧ Below w.heap.size w w' := by
  have HLT := Aside0.mk hT
  clear hT
  have HR0 := Aside0.mk hr0
  have HC0 := Aside0.mk hc0
  clear hr0 hc0
  have HB := Aside0.mk (Below.refl w.heap.size w)
  have H : (words_MayStops.l0 k l0 l0 (l0.length : Int) 0) = some r := h
  clear h
  have H' := Aside0.mk H
  clear H
  go_enter Tryd.func20, Tryd.ntmps20
  go_wp2
  go_loopg [7] k (fun kq v7 w' => ∃ (x7_1 : Int), v7 = .int .i64 x7_1 ∧ Aside0 (words_MayStops.l0 kq l0 l0 (l0.length : Int) x7_1 = some r) ∧ Aside0 (kq ≤ k) ∧ Aside0 (Below w.heap.size w w'))
  case atStart => exact ⟨(0), (by first | rfl | (simp; done) | (simp [*]; done)), H', ⟨Nat.le_refl _⟩, ⟨by repeat (first | (with_reducible first | exact HB.out | apply below_alloc | apply pw_below_drewN | apply below_drew1) | exact HB.out)⟩⟩
  case round =>
    clear H'
    obtain ⟨x7_1, rfl, HA, HK1, HB⟩ := hrel
    cases gk with
    | zero => exact absurd HA.out (by simp [words_MayStops.l0])
    | succ k1 =>
      have H := HA.out
      clear HA
      simp only [words_MayStops.l0] at H
      by_cases c2 : x7_1 < (l0.length : Int)
      · rw [if_pos c2] at H
        have c2b0 : decide (x7_1 < (l0.length : Int)) = true := decide_eq_true c2
        clear c2
        by_cases c3 : 0 ≤ x7_1
        · rw [if_pos c3] at H
          have c3b0 : decide (0 ≤ x7_1) = true := decide_eq_true c3
          clear c3
          by_cases c4 : x7_1 < (l0.length : Int)
          · rw [if_pos c4] at H
            have c4b0 : decide (x7_1 < (l0.length : Int)) = true := decide_eq_true c4
            clear c4
            replace H := Option.bind_eq_some_iff.mp H
            obtain ⟨t113, A50, H⟩ := H
            replace H : (if t113 = true then (if x7_1 > 0 then (if 0 ≤ (wrap64 (x7_1 - 1)) then (if (wrap64 (x7_1 - 1)) < (l0.length : Int) then (if ((Op.bytesLess ((rdOf ByteArray.empty l0 (wrap64 (x7_1 - 1))).toList) ((rdOf ByteArray.empty l0 x7_1).toList)) = true) then (words_MayStops.l0 k1 l0 l0 (l0.length : Int) (wrap64 (x7_1 + 1))) else (some false)) else (none)) else (none)) else (words_MayStops.l0 k1 l0 l0 (l0.length : Int) (wrap64 (x7_1 + 1)))) else (some false)) = some r := H
            have A5 := Aside0.mk A50
            clear A50
            by_cases c6 : t113 = true
            · subst c6
              have H1 : (if x7_1 > 0 then (if 0 ≤ (wrap64 (x7_1 - 1)) then (if (wrap64 (x7_1 - 1)) < (l0.length : Int) then (if ((Op.bytesLess ((rdOf ByteArray.empty l0 (wrap64 (x7_1 - 1))).toList) ((rdOf ByteArray.empty l0 x7_1).toList)) = true) then (words_MayStops.l0 k1 l0 l0 (l0.length : Int) (wrap64 (x7_1 + 1))) else (some false)) else (none)) else (none)) else (words_MayStops.l0 k1 l0 l0 (l0.length : Int) (wrap64 (x7_1 + 1)))) = some r := by rw [if_pos rfl] at H; exact H
              clear H
              have H := H1
              clear H1
              by_cases c7 : x7_1 > 0
              · rw [if_pos c7] at H
                have c7b0 : decide (0 < x7_1) = true := decide_eq_true c7
                clear c7
                obtain ⟨ji8, hji8⟩ : ∃ j_ : Int, (wrap64 (x7_1 - 1)) = j_ := ⟨_, rfl⟩
                replace H : (if 0 ≤ (ji8) then (if (ji8) < (l0.length : Int) then (if ((Op.bytesLess ((rdOf ByteArray.empty l0 (ji8)).toList) ((rdOf ByteArray.empty l0 x7_1).toList)) = true) then (words_MayStops.l0 k1 l0 l0 (l0.length : Int) (wrap64 (x7_1 + 1))) else (some false)) else (none)) else (none)) = some r := by first | (rw [hji8] at H; exact H) | (simp only [hji8] at H ⊢; exact H)
                (try rw [hji8] at A5)
                have hji8w : (IntKind.i64.wrap (x7_1 - 1)) = ji8 := (i64_w _).trans hji8
                by_cases c9 : 0 ≤ (ji8)
                · rw [if_pos c9] at H
                  have c9b0 : decide (0 ≤ (ji8)) = true := decide_eq_true c9
                  clear c9
                  by_cases c10 : (ji8) < (l0.length : Int)
                  · rw [if_pos c10] at H
                    have c10b0 : decide ((ji8) < (l0.length : Int)) = true := decide_eq_true c10
                    clear c10
                    by_cases c11 : ((Op.bytesLess ((rdOf ByteArray.empty l0 (ji8)).toList) ((rdOf ByteArray.empty l0 x7_1).toList)) = true)
                    · rw [if_pos c11] at H
                      have c11b0 : (Op.bytesLess ((rdOf ByteArray.empty l0 (ji8)).toList) ((rdOf ByteArray.empty l0 x7_1).toList)) = true := c11
                      clear c11
                      have H' := Aside0.mk H
                      clear H
                      have p112 : 0 ≤ (x7_1 : Int) := of_decide_eq_true (by first | (with_reducible assumption) | assumption)
                      have q112 : x7_1 < (l0.length : Int) := of_decide_eq_true (by first | (with_reducible assumption) | assumption)
                      obtain ⟨ad112, e112, hx112_0⟩ := Kd.at_string HR0.out x7_1 p112 q112
                      cases e112
                      replace hx112_0 := (HB.out.cell (World.block_lt_of_cell? w _ hx112_0)).trans hx112_0
                      replace p112 := eq_true p112
                      replace q112 := eq_true q112
                      go_wp2_with (first | ((with_reducible refine gate_callee (f := 15) rfl ?_); refine goesL_ (some 13) rfl rfl Tryd.func15 (by kernel_rfl) rfl #[.string (rdOf ByteArray.empty l0 x7_1), .slice none 0 0] rfl (by (try simp only [List.map_toArray, List.map_cons, List.map_nil]); first | done | rfl | (simp only [List.length_drop, List.length_take]; rfl)) ?_; (refine (words_One.calls (rdOf ByteArray.empty l0 x7_1) _ _ ([] : List ByteArray) true _ ?side1 ?side2 ?side3 A5.out).mono ?_); (case side1 => exact Kd.C_nil _ _); (case side2 => exact Nat.le_refl _); (case side3 => repeat (first | exact (Tabs.below HLT.out HB.out) | (with_reducible refine Tabs.alloc ?_ _) | (with_reducible refine Tabs.drewN ?_ _) | (with_reducible refine Tabs.drew ?_))); rintro e w12 ⟨rfl, hb⟩; refine ⟨_, rfl, ?_⟩; have n0_ := Aside0.mk (below_step (by repeat (first | (with_reducible first | exact HB.out | apply below_alloc | apply pw_below_drewN | apply below_drew1) | exact HB.out)) hb); clear HB; have HB := n0_; clear n0_; (try clear hb); (try clear hb2); (try clear hk); (try clear hi); have p114 : 0 ≤ ((ji8) : Int) := of_decide_eq_true (by first | (with_reducible assumption) | assumption); have q114 : (ji8) < (l0.length : Int) := of_decide_eq_true (by first | (with_reducible assumption) | assumption); obtain ⟨ad114, e114, hx114_0⟩ := Kd.at_string HR0.out (ji8) p114 q114; obtain rfl : ad112 = ad114 := (by injection e114); replace hx114_0 := (HB.out.cell (World.block_lt_of_cell? w _ hx114_0)).trans hx114_0; replace p114 := eq_true p114; replace q114 := eq_true q114))
                      go_roundg k1
                      case measure => have := HK1.out; omega
                      case rel => exact ⟨(wrap64 (x7_1 + 1)), (by first | rfl | (simp; done) | (simp [*]; done)), H', ⟨by have := HK1.out; omega⟩, ⟨by repeat (first | (with_reducible first | exact HB.out | apply below_alloc | apply pw_below_drewN | apply below_drew1) | exact HB.out)⟩⟩
                    · rw [if_neg c11] at H
                      have c11b0 : (Op.bytesLess ((rdOf ByteArray.empty l0 (ji8)).toList) ((rdOf ByteArray.empty l0 x7_1).toList)) = false := by simpa using c11
                      clear c11
                      obtain rfl := Option.some.inj H
                      have p112 : 0 ≤ (x7_1 : Int) := of_decide_eq_true (by first | (with_reducible assumption) | assumption)
                      have q112 : x7_1 < (l0.length : Int) := of_decide_eq_true (by first | (with_reducible assumption) | assumption)
                      obtain ⟨ad112, e112, hx112_0⟩ := Kd.at_string HR0.out x7_1 p112 q112
                      cases e112
                      replace hx112_0 := (HB.out.cell (World.block_lt_of_cell? w _ hx112_0)).trans hx112_0
                      replace p112 := eq_true p112
                      replace q112 := eq_true q112
                      go_wp2_with (first | ((with_reducible refine gate_callee (f := 15) rfl ?_); refine goesL_ (some 13) rfl rfl Tryd.func15 (by kernel_rfl) rfl #[.string (rdOf ByteArray.empty l0 x7_1), .slice none 0 0] rfl (by (try simp only [List.map_toArray, List.map_cons, List.map_nil]); first | done | rfl | (simp only [List.length_drop, List.length_take]; rfl)) ?_; (refine (words_One.calls (rdOf ByteArray.empty l0 x7_1) _ _ ([] : List ByteArray) true _ ?side1 ?side2 ?side3 A5.out).mono ?_); (case side1 => exact Kd.C_nil _ _); (case side2 => exact Nat.le_refl _); (case side3 => repeat (first | exact (Tabs.below HLT.out HB.out) | (with_reducible refine Tabs.alloc ?_ _) | (with_reducible refine Tabs.drewN ?_ _) | (with_reducible refine Tabs.drew ?_))); rintro e w13 ⟨rfl, hb⟩; refine ⟨_, rfl, ?_⟩; have n0_ := Aside0.mk (below_step (by repeat (first | (with_reducible first | exact HB.out | apply below_alloc | apply pw_below_drewN | apply below_drew1) | exact HB.out)) hb); clear HB; have HB := n0_; clear n0_; (try clear hb); (try clear hb2); (try clear hk); (try clear hi); have p114 : 0 ≤ ((ji8) : Int) := of_decide_eq_true (by first | (with_reducible assumption) | assumption); have q114 : (ji8) < (l0.length : Int) := of_decide_eq_true (by first | (with_reducible assumption) | assumption); obtain ⟨ad114, e114, hx114_0⟩ := Kd.at_string HR0.out (ji8) p114 q114; obtain rfl : ad112 = ad114 := (by injection e114); replace hx114_0 := (HB.out.cell (World.block_lt_of_cell? w _ hx114_0)).trans hx114_0; replace p114 := eq_true p114; replace q114 := eq_true q114))
                      go_ret
                      exact ⟨by first | rfl | (simp [errW_none, errW_some] <;> rfl) | (simp only [← hji8]; first | rfl | (simp [errW_none, errW_some] <;> rfl)) | (simp [*, errW_none, errW_some] <;> rfl), by repeat (first | (with_reducible first | exact HB.out | apply below_alloc | apply pw_below_drewN | apply below_drew1) | exact HB.out)⟩
                  · rw [if_neg c10] at H
                    exact absurd H (by simp)
                · rw [if_neg c9] at H
                  exact absurd H (by simp)
              · rw [if_neg c7] at H
                have c7b0 : decide (0 < x7_1) = false := decide_eq_false c7
                clear c7
                have H' := Aside0.mk H
                clear H
                have p112 : 0 ≤ (x7_1 : Int) := of_decide_eq_true (by first | (with_reducible assumption) | assumption)
                have q112 : x7_1 < (l0.length : Int) := of_decide_eq_true (by first | (with_reducible assumption) | assumption)
                obtain ⟨ad112, e112, hx112_0⟩ := Kd.at_string HR0.out x7_1 p112 q112
                cases e112
                replace hx112_0 := (HB.out.cell (World.block_lt_of_cell? w _ hx112_0)).trans hx112_0
                replace p112 := eq_true p112
                replace q112 := eq_true q112
                go_wp2_with (first | ((with_reducible refine gate_callee (f := 15) rfl ?_); refine goesL_ (some 13) rfl rfl Tryd.func15 (by kernel_rfl) rfl #[.string (rdOf ByteArray.empty l0 x7_1), .slice none 0 0] rfl (by (try simp only [List.map_toArray, List.map_cons, List.map_nil]); first | done | rfl | (simp only [List.length_drop, List.length_take]; rfl)) ?_; (refine (words_One.calls (rdOf ByteArray.empty l0 x7_1) _ _ ([] : List ByteArray) true _ ?side1 ?side2 ?side3 A5.out).mono ?_); (case side1 => exact Kd.C_nil _ _); (case side2 => exact Nat.le_refl _); (case side3 => repeat (first | exact (Tabs.below HLT.out HB.out) | (with_reducible refine Tabs.alloc ?_ _) | (with_reducible refine Tabs.drewN ?_ _) | (with_reducible refine Tabs.drew ?_))); rintro e w14 ⟨rfl, hb⟩; refine ⟨_, rfl, ?_⟩; have n0_ := Aside0.mk (below_step (by repeat (first | (with_reducible first | exact HB.out | apply below_alloc | apply pw_below_drewN | apply below_drew1) | exact HB.out)) hb); clear HB; have HB := n0_; clear n0_; (try clear hb); (try clear hb2); (try clear hk); (try clear hi)))
                go_roundg k1
                case measure => have := HK1.out; omega
                case rel => exact ⟨(wrap64 (x7_1 + 1)), (by first | rfl | (simp; done) | (simp [*]; done)), H', ⟨by have := HK1.out; omega⟩, ⟨by repeat (first | (with_reducible first | exact HB.out | apply below_alloc | apply pw_below_drewN | apply below_drew1) | exact HB.out)⟩⟩
            · replace c6 := Bool.eq_false_iff.mpr c6
              subst c6
              have H1 : (some false) = some r := by rw [if_neg (show ¬ (false = true) by decide)] at H; exact H
              clear H
              have H := H1
              clear H1
              obtain rfl := Option.some.inj H
              have p112 : 0 ≤ (x7_1 : Int) := of_decide_eq_true (by first | (with_reducible assumption) | assumption)
              have q112 : x7_1 < (l0.length : Int) := of_decide_eq_true (by first | (with_reducible assumption) | assumption)
              obtain ⟨ad112, e112, hx112_0⟩ := Kd.at_string HR0.out x7_1 p112 q112
              cases e112
              replace hx112_0 := (HB.out.cell (World.block_lt_of_cell? w _ hx112_0)).trans hx112_0
              replace p112 := eq_true p112
              replace q112 := eq_true q112
              go_wp2_with (first | ((with_reducible refine gate_callee (f := 15) rfl ?_); refine goesL_ (some 13) rfl rfl Tryd.func15 (by kernel_rfl) rfl #[.string (rdOf ByteArray.empty l0 x7_1), .slice none 0 0] rfl (by (try simp only [List.map_toArray, List.map_cons, List.map_nil]); first | done | rfl | (simp only [List.length_drop, List.length_take]; rfl)) ?_; (refine (words_One.calls (rdOf ByteArray.empty l0 x7_1) _ _ ([] : List ByteArray) false _ ?side1 ?side2 ?side3 A5.out).mono ?_); (case side1 => exact Kd.C_nil _ _); (case side2 => exact Nat.le_refl _); (case side3 => repeat (first | exact (Tabs.below HLT.out HB.out) | (with_reducible refine Tabs.alloc ?_ _) | (with_reducible refine Tabs.drewN ?_ _) | (with_reducible refine Tabs.drew ?_))); rintro e w15 ⟨rfl, hb⟩; refine ⟨_, rfl, ?_⟩; have n0_ := Aside0.mk (below_step (by repeat (first | (with_reducible first | exact HB.out | apply below_alloc | apply pw_below_drewN | apply below_drew1) | exact HB.out)) hb); clear HB; have HB := n0_; clear n0_; (try clear hb); (try clear hb2); (try clear hk); (try clear hi)))
              go_ret
              exact ⟨by first | rfl | (simp [errW_none, errW_some] <;> rfl) | (simp [*, errW_none, errW_some] <;> rfl), by repeat (first | (with_reducible first | exact HB.out | apply below_alloc | apply pw_below_drewN | apply below_drew1) | exact HB.out)⟩
          · rw [if_neg c4] at H
            exact absurd H (by simp)
        · rw [if_neg c3] at H
          exact absurd H (by simp)
      · rw [if_neg c2] at H
        have c2b0 : decide (x7_1 < (l0.length : Int)) = false := decide_eq_false c2
        clear c2
        obtain rfl := Option.some.inj H
        go_wp2
        go_ret
        exact ⟨by first | rfl | (simp [errW_none, errW_some] <;> rfl) | (simp [*, errW_none, errW_some] <;> rfl), by repeat (first | (with_reducible first | exact HB.out | apply below_alloc | apply pw_below_drewN | apply below_drew1) | exact HB.out)⟩

end Go.Proofs.YtjeomkojpkienaaDoorZ.ZB
