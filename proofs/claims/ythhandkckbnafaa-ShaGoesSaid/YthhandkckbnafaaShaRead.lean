/-
  The walk of sha.Read: which sum a text is.
-/
import Derived.Test.YthhandkckbnafaaShaIO
import Derived.Lib.OthersKept
import Derived.Laws.ResultCell
import Derived.Test.YthhandkckbnafaaShelf
set_option linter.unusedVariables false
set_option linter.unusedSimpArgs false
namespace Go.Proofs.Ythhandkckbnafaa
open Go.RowKit Go.Proofs.YthhandkckbnafaaZ.ZA Go.Proofs.YthhandkckbnafaaW.PrintWords Go.Proofs.YthhandkckbnafaaW.PrintLast Go.Proofs.YthhandkckbnafaaW.PrintMore
/-- A digit's value; below 0: it is none. -/
def dg (c : UInt8) : Int := Lib.indexByte HEX.data.toList c
theorem dg_all : ((List.range 256).all fun m => decide (-1 ≤ dg (UInt8.ofNat m) ∧ dg (UInt8.ofNat m) < 16 ∧ (128 ≤ m → dg (UInt8.ofNat m) = -1))) = true := by kernel_rfl
theorem dg_facts (c : UInt8) : -1 ≤ dg c ∧ dg c < 16 ∧ (128 ≤ c.toNat → dg c = -1) := by
  have h := of_decide_eq_true (List.all_eq_true.1 dg_all c.toNat (List.mem_range.2 c.toNat_lt))
  rwa [UInt8.ofNat_toNat] at h
def isD (c : UInt8) : Bool := decide (0 ≤ dg c)
def nib (s : List UInt8) : List Nat := s.map fun c => (dg c).toNat
def outB (N : List Nat) (j : Nat) : Nat := if 2 * j + 1 < N.length then 16 * N.getD (2 * j) 0 + N.getD (2 * j + 1) 0 else N.getD (2 * j) 0
/-- The bytes behind some digits. -/
def outK (N : List Nat) : List UInt8 := (List.range 32).map fun j => UInt8.ofNat (outB N j)
def rdOk (s : List UInt8) : Bool := decide (s.length = 64) && s.all isD
def rdO (s : List UInt8) : List UInt8 := if rdOk s = true then outK (nib s) else List.replicate 32 0
theorem outK_length (N : List Nat) : (outK N).length = 32 := by simp [outK]
theorem outK_nil : outK [] = List.replicate 32 0 := by decide
theorem results_cell_row_tmp {P : Program} {fn : Func} {p u : Tmp} {ty : TypeId} (h : fn.results = #[.cell p ty, .tmp u]) (tmps : Array Value) (w : World) (g : Nat) (t : TypeId) (cs : Array Value) (fr : Nat × Nat) (d : TypeDesc)
    (hp : tmps.getD p undef = .pointer (some ⟨g, 0, none⟩)) (hg : w.heap[g]? = some (.cells cs t fr))
    (hu : P.underlying ty = some d) (hd : (match d with | .struct _ | .array _ _ => true | _ => false) = true) (hi : (P.info? ty).map (·.size) = some cs.size) :
    (results fn tmps).run P w = .ok (.tuple #[.agg cs, tmps.getD u undef]) w := by
  have hp' : tmps[p]?.getD undef = .pointer (some ⟨g, 0, none⟩) := by simpa using hp
  rw [results_cell_tmp h]
  simp [hp', asAddr, run_loadVar_row w g t ty cs fr d hg hu hd hi]
theorem nib_at (N : List Nat) (d j : Nat) (h : j < N.length) : (N ++ [d]).getD j 0 = N.getD j 0 := by rw [List.getD, List.getD, List.getElem?_append_left h]
theorem nib_new (N : List Nat) (d : Nat) : (N ++ [d]).getD N.length 0 = d := by rw [List.getD, List.getElem?_append_right (Nat.le_refl _), Nat.sub_self]; rfl
theorem nib_past (N : List Nat) (d j : Nat) (h : N.length < j) : (N ++ [d]).getD j 0 = 0 := by rw [List.getD, List.getElem?_eq_none (by simp; omega)]; rfl
theorem outB_other (N : List Nat) (d j : Nat) (h : j ≠ N.length / 2) : outB (N ++ [d]) j = outB N j := by
  unfold outB
  rw [List.length_append, List.length_singleton]
  by_cases h1 : 2 * j + 1 < N.length
  · rw [if_pos (by omega), if_pos h1, nib_at _ _ _ (by omega), nib_at _ _ _ h1]
  · rw [if_neg (by omega), if_neg h1]
    by_cases h2 : 2 * j < N.length
    · rw [nib_at _ _ _ h2]
    · rw [nib_past _ _ _ (by omega), List.getD, List.getElem?_eq_none (by omega)]; rfl
theorem outB_here (N : List Nat) (d : Nat) : outB (N ++ [d]) (N.length / 2) = 16 * outB N (N.length / 2) + d := by
  unfold outB
  rw [List.length_append, List.length_singleton]
  rcases Nat.mod_two_eq_zero_or_one N.length with h | h
  · rw [if_neg (by omega), if_neg (by omega), show 2 * (N.length / 2) = N.length by omega, nib_new, List.getD, List.getElem?_eq_none (Nat.le_refl _)]; simp
  · rw [if_pos (by omega), if_neg (by omega), show 2 * (N.length / 2) + 1 = N.length by omega, nib_new, nib_at _ _ _ (by omega)]
theorem outK_step (N : List Nat) (d : Nat) (h : N.length < 64) : outK (N ++ [d]) = (outK N).set (N.length / 2) (UInt8.ofNat (16 * outB N (N.length / 2) + d)) := by
  apply List.ext_getElem?
  intro j
  rw [List.getElem?_set]
  by_cases hj : N.length / 2 = j
  · rw [if_pos hj, if_pos (by rw [outK_length]; omega), ← hj]
    unfold outK
    rw [List.getElem?_map, List.getElem?_range (by omega), Option.map_some, outB_here]
  · rw [if_neg hj]
    unfold outK
    rw [List.getElem?_map, List.getElem?_map]
    by_cases h32 : j < 32
    · rw [List.getElem?_range h32, Option.map_some, Option.map_some, outB_other _ _ _ (Ne.symm hj)]
    · rw [List.getElem?_eq_none (by simp; omega)]; rfl
theorem nib_lt (s : List UInt8) (j : Nat) : (nib s).getD j 0 < 16 := by
  unfold nib
  rw [List.getD, List.getElem?_map]
  cases h : s[j]? with
  | none => decide
  | some c => have := dg_facts c; show (dg c).toNat < 16; omega
theorem outB_half (s : List UInt8) : outB (nib s) ((nib s).length / 2) < 16 := by
  unfold outB
  rw [if_neg (by omega)]
  exact nib_lt s _
theorem or_nib_all : ((List.range 16).all fun m => (List.range 16).all fun n => Go.bits .or .u8 (((m * 16 : Nat) : Nat) : Int) ((n : Nat) : Int) == ((16 * m + n : Nat) : Int)) = true := by kernel_rfl
theorem or_nib (m n : Nat) (hm : m < 16) (hn : n < 16) : Go.bits .or .u8 ((m : Int) * 16) (n : Int) = ((16 * m + n : Nat) : Int) := by
  have h := eq_of_beq (List.all_eq_true.1 (List.all_eq_true.1 or_nib_all m (List.mem_range.2 hm)) n (List.mem_range.2 hn))
  rwa [Int.natCast_mul] at h
theorem byte_back (c : UInt8) : ((c.toNat : Int)).toNat.toUInt8 = c := by simp
theorem index_str (s : ByteArray) (k : Nat) (hk : k < s.size) (w : World) : Sem.run Try.prog (Instr.index 9 (.string s) (.int .i64 (k : Int))) w = .ok (.int .u8 (((tb s).getD k 0).toNat : Int)) w := by
  have h0 : (0 : Int) ≤ (k : Int) := by omega
  have h1 : (k : Int) < (s.size : Int) := by omega
  have e : (tb s).getD k 0 = s[k]'hk := by
    unfold tb
    rw [List.getD, List.getElem?_eq_getElem (by rw [Array.length_toList]; exact hk)]
    simp
    rfl
  rw [e]
  unfold Instr.index
  go_simp
theorem u8n (n : Nat) (h : n < 256) : (UInt8.ofNat n).toNat = n := by simp; omega
/-- On the way through the text. -/
def RK (w W : World) (s : ByteArray) (N : List Nat) (k : Nat) : Prop := W.heap[w.heap.size]? = some (.cells z32 26 (0, 0)) ∧ W.heap[w.heap.size + 1]? = some (.cells (bs (outK N)).toArray 26 (0, 0)) ∧ W.heap[w.heap.size + 2]? = some (.stringIter s k) ∧ Below w.heap.size w W
theorem RK.iter {w W : World} {s : ByteArray} {N : List Nat} {k : Nat} (h : RK w W s N k) (k' : Nat) : RK w (W.iterAt (w.heap.size + 2) s k') s N k' := by
  obtain ⟨h1, h2, h3, h4⟩ := h
  exact ⟨(Lib.iterAt_other _ _ _ _ _ (by omega)).trans h1, (Lib.iterAt_other _ _ _ _ _ (by omega)).trans h2, Lib.iterAt_heap _ _ _ _ _ h3, Lib.below_iterAt h4 (by omega) _ _⟩
theorem RK.cell {w W : World} {s : ByteArray} {N : List Nat} {k : Nat} (h : RK w W s N k) (j : Nat) (hj : j < 32) (hm : outB N j < 256) : W.cell? ⟨w.heap.size + 1, j, none⟩ = some (.int .u8 ((outB N j : Nat) : Int)) := by
  rw [blk_cell h.2.1, List.getElem?_toArray]
  unfold bs outK
  rw [List.getElem?_map, List.getElem?_map, List.getElem?_range hj, Option.map_some, Option.map_some]
  rw [u8n _ hm]
theorem RK.put {w W : World} {s : ByteArray} {N : List Nat} {k d : Nat} (h : RK w W s N k) (hN : N.length < 64) (hm : outB N (N.length / 2) < 16) (hd : d < 16) : RK w (W.setCell ⟨w.heap.size + 1, N.length / 2, none⟩ (.int .u8 ((16 * outB N (N.length / 2) + d : Nat) : Int))) s (N ++ [d]) k := by
  obtain ⟨h1, h2, h3, h4⟩ := h
  refine ⟨blk_far h1 (by show w.heap.size ≠ w.heap.size + 1; omega) _, blk_put h2 _ _ ?_, (Below.heap_setCell W _ _ (w.heap.size + 2) (by show w.heap.size + 2 ≠ w.heap.size + 1; omega)).trans h3, h4.setCell (by show w.heap.size ≤ w.heap.size + 1; omega) _⟩
  rw [outK_step N d hN, List.setIfInBounds_toArray]
  unfold bs
  rw [List.map_set, u8n _ (by omega)]

set_option maxHeartbeats 4000000 in
set_option maxRecDepth 100000 in
theorem read_calls (s : ByteArray) (w : World) :
    Calls Try.prog 22 #[.string s] w fun e w' => e = .returned (.tuple #[.agg (bs (rdO (tb s))).toArray, .bool (rdOk (tb s))]) ∧ Below w.heap.size w w' := by
  have hsz : (Try.prog.info? 26).map (·.size) = some z32.size := size32
  have hz1 : z32.all (·.oneCell') = true := all_oneCell_toArray (bs_one _)
  have h20 : ((w.alloc (.cells z32 26)).alloc (.cells z32 26)).heap[w.heap.size]? = some (.cells z32 26 (0, 0)) := blk_alloc (heap_alloc_new w _) _
  have h21 : ((w.alloc (.cells z32 26)).alloc (.cells z32 26)).heap[w.heap.size + 1]? = some (.cells z32 26 (0, 0)) := by
    have := heap_alloc_new (w.alloc (.cells z32 26)) (.cells z32 26)
    simpa using this
  have hb2 : Below w.heap.size w ((w.alloc (.cells z32 26)).alloc (.cells z32 26)) := ((Below.refl _ _).alloc (Nat.le_refl _) _).alloc (by simp) _
  by_cases hlen : (s.size : Int) = 64
  · have hsl : (tb s).length = 64 := by rw [tb_length]; omega
    have hK0 : RK w (((w.alloc (.cells z32 26)).alloc (.cells z32 26)).iter s 0) s (nib ((tb s).take 0)) 0 := by
      refine ⟨blk_alloc h20 _, ?_, ?_, hb2.alloc (by simp; omega) _⟩
      · rw [List.take_zero, show nib [] = [] from rfl, outK_nil]; exact blk_alloc h21 _
      · have := World.iter_heap ((w.alloc (.cells z32 26)).alloc (.cells z32 26)) s 0
        simpa using this
    have A20 := Aside0.mk h20
    have A21 := Aside0.mk h21
    have AS := Aside0.mk hsl
    have hss : s.size = 64 := by omega
    clear h20 h21 hsl
    go_enter Try.func22, Try.ntmps22
    go_wp2_with fail
    go_loopw [] (fun wr => ∃ k : Nat, k ≤ 64 ∧ RK w wr s (nib ((tb s).take k)) k ∧ ((tb s).take k).all isD = true) (fun wr => 64 - wr.iterPos (w.heap.size + 2))
    case atStart => exact ⟨0, Nat.zero_le _, hK0, rfl⟩
    case round =>
      clear hK0
      obtain ⟨k, hk, hK, hall⟩ := hrel
      have hit := hK.2.2.1
      by_cases hp : k < 64
      · have hps : k < s.size := by omega
        obtain ⟨c, hc⟩ : ∃ c, (tb s).getD k 0 = c := ⟨_, rfl⟩
        have hcs : s[k]'hps = c := by
          rw [← hc]; unfold tb
          rw [List.getD, List.getElem?_eq_getElem (by rw [Array.length_toList]; exact hps)]
          simp
          rfl
        have hix := index_str s k hps
        rw [hc] at hix
        have hfa := dg_facts c
        have hcall : ∀ W : World, Calls Try.prog 34 #[.string HEX, .int .u8 (c.toNat : Int)] W fun e w' => e = .returned (.int .i64 (dg c)) ∧ w' = W := fun W => by
          have h := Try.strings_IndexByte HEX (c.toNat : Int) W
          rw [byte_back] at h
          exact h
        have hNl : (nib ((tb s).take k)).length = k := by unfold nib; rw [List.length_map, List.length_take, AS.out]; omega
        have hmm := outB_half ((tb s).take k)
        rw [hNl] at hmm
        by_cases hd : 0 ≤ dg c
        · have hlow : c.toNat < 128 := by
            rcases Nat.lt_or_ge c.toNat 128 with h | h
            · exact h
            · have := hfa.2.2 h; omega
          have hnx := fun ty => Lib.run_next_ascii_at (P := Try.prog) wr (w.heap.size + 2) s k ty hit hps (by rw [hcs]; exact hlow)
          have hK1 := hK.iter (k + 1)
          have hcell := hK1.cell (k / 2) (by omega) (by omega)
          have hfz := blk_frozen hK1.2.1 (k / 2)
          obtain ⟨d, hdv⟩ : ∃ d : Nat, dg c = (d : Int) := ⟨(dg c).toNat, by omega⟩
          have hd16 : d < 16 := by omega
          have hput := fun W (h : RK w W s (nib ((tb s).take k)) (k + 1)) => RK.put (d := d) h (by omega) (by rw [hNl]; exact hmm) hd16
          rw [hNl] at hput
          have hkl : k < (tb s).length := by rw [AS.out]; exact hp
          have hck : (tb s)[k] = c := by rw [List.getD, List.getElem?_eq_getElem hkl] at hc; exact hc
          have hNs : nib ((tb s).take (k + 1)) = nib ((tb s).take k) ++ [d] := by
            unfold nib
            rw [List.take_succ_eq_append_getElem hkl, List.map_append, hck]
            simp [hdv]
          have hAs : ((tb s).take (k + 1)).all isD = true := by
            rw [List.take_succ_eq_append_getElem hkl, List.all_append, hall, hck]
            simp [isD, hd]
          obtain ⟨m, hm⟩ : ∃ m, outB (nib ((tb s).take k)) (k / 2) = m := ⟨_, rfl⟩
          rw [hm] at hcell hput hmm
          rw [hcs] at hnx
          rw [hdv] at hcall
          generalize nib ((tb s).take k) = N at hK hK1 hput hNs
          have hit5 := hK1.2.2.1
          have q1 : (k : Int).tdiv 2 = ((k / 2 : Nat) : Int) := by rw [Int.tdiv_eq_ediv_of_nonneg (by omega)]; omega
          have q2 : IntKind.u8.wrap ((m : Int) * 16) = (m : Int) * 16 := by simp [IntKind.wrap, IntKind.bits, IntKind.signed]; omega
          have q3 : IntKind.u8.wrap (d : Int) = (d : Int) := by simp [IntKind.wrap, IntKind.bits, IntKind.signed]; omega
          have q4 := or_nib m d hmm hd16
          have q5 : ¬ ((d : Int) < 0) := by omega
          have AP := Aside0.mk hput
          have ANS := Aside0.mk hNs
          have AAL := Aside0.mk hAs
          have AK1 := Aside0.mk hK1
          have AIT := Aside0.mk hit
          have ACC := Aside0.mk hcall
          clear hput hNs hAs hK1 hK hit hall hc hck hkl hcs hdv hm hfa hd hNl hcall hit5
          generalize World.iterAt wr (w.heap.size + 2) s (k + 1) = w5 at hnx hcell hfz AK1
          go_wp2_with (go_at_call 34; refine (ACC.out _).mono ?_; rintro e w6 ⟨rfl, rfl⟩)
          have hR := AP.out _ AK1.out
          rw [show (((16 * m + d : Nat) : Nat) : Int) = 16 * (m : Int) + (d : Int) by omega] at hR
          refine ⟨⟨k + 1, by omega, by rw [ANS.out]; exact hR, AAL.out⟩, ?_⟩
          have e1 := hR.2.2.1
          have e2 := AIT.out
          simp only [World.iterPos, e1, e2]
          omega
        · have hdv : dg c = -1 := by omega
          have hnx := fun ty => Lib.run_next_any_at (P := Try.prog) wr (w.heap.size + 2) s k ty hit hps
          have hK1 := hK.iter (k + (Utf8.decode s k).2)
          have hno : rdOk (tb s) = false := by
            unfold rdOk
            rw [Bool.and_eq_false_iff]
            refine .inr ?_
            rw [← Bool.not_eq_true, List.all_eq_true]
            intro h
            have h2 := h c (by rw [← hc, List.getD, List.getElem?_eq_getElem (by rw [AS.out]; exact hp)]; exact List.getElem_mem _)
            rw [isD, hdv] at h2
            exact absurd h2 (by decide)
          have hO : rdO (tb s) = List.replicate 32 0 := by unfold rdO; rw [hno]; rfl
          rw [hdv] at hcall
          have hr0 := hK1.1
          have hb1 := hK1.2.2.2
          have ACC := Aside0.mk hcall
          have ANO := Aside0.mk hno
          have AO := Aside0.mk hO
          have AB1 := Aside0.mk hb1
          have A0 := Aside0.mk hr0
          clear hK hK1 hit hall hc hcs hdv hfa hd hNl hcall hno hO hb1 hr0 hmm
          generalize World.iterAt wr (w.heap.size + 2) s (k + (Utf8.decode s k).2) = w5 at hnx AB1 A0
          go_wp2_with (first | (go_at_call 34; refine (ACC.out _).mono ?_; rintro e w6 ⟨rfl, rfl⟩) | (refine wpList_store_row rfl 26 (.tmp 2) (.tmp 22) rfl w.heap.size z32 rfl rfl 26 _ A0.out hsz rfl hz1 ?_))
          have hrow := setRow_heap w6 w.heap.size z32 z32 _ _ A0.out
          refine bodyPost_ret (v := .tuple #[.agg z32, .bool false]) (results_cell_row_tmp (p := 2) (u := 3) (ty := 26) rfl _ _ w.heap.size 26 z32 (0, 0) _ rfl hrow Try.underlying26 rfl hsz) rfl ?_
          rw [AO.out, ANO.out]
          exact ⟨rfl, AB1.out.trans ⟨rfl, rfl, rfl, by simp, fun i hi => setRow_other _ _ _ _ (by omega)⟩⟩
      · have hk64 : k = 64 := by omega
        subst hk64
        rw [List.take_of_length_le (by rw [AS.out]; exact Nat.le_refl _)] at hK hall
        have hnx := fun ty => Lib.run_next_end_at (P := Try.prog) wr (w.heap.size + 2) s 64 ty hit (by omega)
        have hok : rdOk (tb s) = true := by unfold rdOk; rw [decide_eq_true AS.out, hall]; rfl
        have hO : rdO (tb s) = outK (nib (tb s)) := by unfold rdO; rw [hok]; rfl
        have hg := hK.2.1
        have hr := hK.1
        have hb := hK.2.2.2
        rw [← hO] at hg
        have hol : (bs (rdO (tb s))).length = 32 := by rw [hO, bs_length, outK_length]
        have hs32 : (Try.prog.info? 26).map (·.size) = some (bs (rdO (tb s))).length := by rw [hol]; exact size32
        have hs32a : (Try.prog.info? 26).map (·.size) = some (bs (rdO (tb s))).toArray.size := by rw [List.size_toArray]; exact hs32
        have hza : z32.size = (bs (rdO (tb s))).toArray.size := by show 32 = _; rw [List.size_toArray, hol]
        have hone : (bs (rdO (tb s))).toArray.all (·.oneCell') = true := all_oneCell_toArray (bs_one _)
        have hrd : ∀ j u, (bs (rdO (tb s)))[j]? = some u → wr.cell? ⟨w.heap.size + 1, 0 + j, none⟩ = some u := fun j u hj => by rw [blk_cell hg (0 + j), Nat.zero_add, List.getElem?_toArray]; exact hj
        have hfin := setRow_heap wr w.heap.size z32 (bs (rdO (tb s))).toArray _ _ hr
        have AF := Aside0.mk hfin
        have AOK := Aside0.mk hok
        have ABB := Aside0.mk hb
        clear hfin hok hb hg hK hall hO hol hit
        generalize hD : bs (rdO (tb s)) = D at hs32 hs32a hza hone hrd AF
        have AD := Aside0.mk hD
        clear hD
        go_wp2_with (first | (refine wpList_load_at 26 (.tmp 4) (w.heap.size + 1) 0 D _ hrd Try.underlying26 rfl hs32 rfl rfl rfl ?_) | (refine wpList_store_row rfl 26 (.tmp 2) (.tmp 34) rfl w.heap.size D.toArray rfl rfl 26 _ hr hs32a hza hone ?_))
        refine bodyPost_ret (v := .tuple #[.agg D.toArray, .bool true]) (results_cell_row_tmp (p := 2) (u := 3) (ty := 26) rfl _ _ w.heap.size 26 D.toArray (0, 0) _ rfl AF.out Try.underlying26 rfl hs32a) rfl ?_
        rw [AD.out, AOK.out]
        exact ⟨rfl, ABB.out.trans ⟨rfl, rfl, rfl, by simp, fun i hi => setRow_other _ _ _ _ (by omega)⟩⟩
  · have hno : rdOk (tb s) = false := by unfold rdOk; rw [tb_length, decide_eq_false (by omega)]; rfl
    have hO : rdO (tb s) = List.replicate 32 0 := by unfold rdO; rw [hno]; rfl
    have hrd : ∀ j u, (bs (List.replicate 32 0))[j]? = some u → ((w.alloc (.cells z32 26)).alloc (.cells z32 26)).cell? ⟨w.heap.size + 1, 0 + j, none⟩ = some u := fun j u hj => by rw [blk_cell h21 (0 + j), Nat.zero_add]; unfold z32; rw [List.getElem?_toArray]; exact hj
    have hrow := setRow_heap _ w.heap.size z32 z32 _ _ h20
    have hbl : Below w.heap.size w (((w.alloc (.cells z32 26)).alloc (.cells z32 26)).setRow w.heap.size z32) := hb2.trans ⟨rfl, rfl, rfl, by simp, fun i hi => setRow_other _ _ _ _ (by omega)⟩
    have AR := Aside0.mk hrow
    have AB := Aside0.mk hbl
    have hsl : (Try.prog.info? 26).map (·.size) = some (bs (List.replicate 32 0)).length := size32
    have A20 := Aside0.mk h20
    have A21 := Aside0.mk h21
    have ARD := Aside0.mk hrd
    have ANO := Aside0.mk hno
    have AO := Aside0.mk hO
    clear hrow hbl h20 h21 hrd hb2 hno hO
    go_enter Try.func22, Try.ntmps22
    go_wp2_with (first | (refine wpList_load_at 26 (.tmp 4) (w.heap.size + 1) 0 (bs (List.replicate 32 0)) _ ARD.out Try.underlying26 rfl hsl rfl rfl rfl ?_; generalize hz : (bs (List.replicate 32 0)).toArray = ZZ) | (refine wpList_store_row rfl 26 (.tmp 2) (.tmp 10) rfl w.heap.size ZZ rfl rfl 26 _ A20.out (hz ▸ hsz) (hz ▸ rfl) (hz ▸ hz1) ?_))
    refine bodyPost_ret (v := .tuple #[.agg z32, .bool false]) (results_cell_row_tmp (p := 2) (u := 3) (ty := 26) rfl _ _ w.heap.size 26 z32 (0, 0) _ rfl (hz ▸ AR.out) Try.underlying26 rfl hsz) rfl ?_
    rw [AO.out, ANO.out]
    exact ⟨rfl, hz ▸ AB.out⟩

end Go.Proofs.Ythhandkckbnafaa
