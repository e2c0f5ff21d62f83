/- Parts of the proof: Kd, Ke, Kf, Hb, Qa. -/
import Derived.Deep.DeepCutAuto
import Derived.Deep.CutBlock
import Derived.Deep.RegionLaw
import Derived.Deep.RegionHeld3
import Derived.ArgAppend
import Derived.Outline
import Derived.IntWalk
import Derived.BigQuiet
import Derived.Deep.QuietTactic
import Derived.Test.YthhokkfcdbcllaaDoorN01
import Derived.Test.YthhokkfcdbcllaaDoorN02
import Derived.Test.YthhokkfcdbcllaaDoorN03
section
namespace Go.Dk
open Go.RowKit Go.Maps Go.MapKept
open Go.Proofs hiding intOf
/-- A box of cells. -/
def BoxB (W : World) (b : Nat) (xs : List Value) (T : TypeId) : Prop := W.heap[b]? = some (.cells xs.toArray T (0, 0))
section
variable {W W' : World} {b c : Nat} {xs : List Value} {T : TypeId}
theorem BoxB.new (w : World) (xs : List Value) (T : TypeId) : BoxB (w.alloc (.cells xs.toArray T)) w.heap.size xs T := heap_alloc_new' _ _ rfl
theorem BoxB.lt (h : BoxB W b xs T) : b < W.heap.size := lt_of_block h
theorem BoxB.cell (h : BoxB W b xs T) {i : Nat} {v : Value} (hi : xs[i]? = some v) : W.cell? ⟨b, i, none⟩ = some v := cell_of h (by simpa using hi)
theorem BoxB.fr (h : BoxB W b xs T) (i : Nat) : W.frozen? ⟨b, i, none⟩ = false := frozen_of h
theorem BoxB.below (h : BoxB W b xs T) (hb : Below W.heap.size W W') : BoxB W' b xs T := (hb.block b (lt_of_block h)).trans h
theorem BoxB.set (h : BoxB W b xs T) (i : Nat) (u : Value) : BoxB (W.setCell ⟨b, i, none⟩ u) b (xs.set i u) T := by
  unfold BoxB at *
  rw [setCell_block h]
  simp
theorem BoxB.other (h : BoxB W b xs T) (hne : b ≠ c) (i : Nat) (u : Value) : BoxB (W.setCell ⟨c, i, none⟩ u) b xs T := by
  unfold BoxB at *
  rw [← h]
  exact Below.heap_setCell _ _ _ _ hne
end
/-- The sixteen words of a set, one by one. -/
structure L16 (m : Nat) : Prop where
  h0 : (bitsV m)[0]? = some (.int .u64 (wd m 0 : Int))
  h1 : (bitsV m)[1]? = some (.int .u64 (wd m 1 : Int))
  h2 : (bitsV m)[2]? = some (.int .u64 (wd m 2 : Int))
  h3 : (bitsV m)[3]? = some (.int .u64 (wd m 3 : Int))
  h4 : (bitsV m)[4]? = some (.int .u64 (wd m 4 : Int))
  h5 : (bitsV m)[5]? = some (.int .u64 (wd m 5 : Int))
  h6 : (bitsV m)[6]? = some (.int .u64 (wd m 6 : Int))
  h7 : (bitsV m)[7]? = some (.int .u64 (wd m 7 : Int))
  h8 : (bitsV m)[8]? = some (.int .u64 (wd m 8 : Int))
  h9 : (bitsV m)[9]? = some (.int .u64 (wd m 9 : Int))
  h10 : (bitsV m)[10]? = some (.int .u64 (wd m 10 : Int))
  h11 : (bitsV m)[11]? = some (.int .u64 (wd m 11 : Int))
  h12 : (bitsV m)[12]? = some (.int .u64 (wd m 12 : Int))
  h13 : (bitsV m)[13]? = some (.int .u64 (wd m 13 : Int))
  h14 : (bitsV m)[14]? = some (.int .u64 (wd m 14 : Int))
  h15 : (bitsV m)[15]? = some (.int .u64 (wd m 15 : Int))
theorem l16 (m : Nat) : L16 m := ⟨rfl, rfl, rfl, rfl, rfl, rfl, rfl, rfl, rfl, rfl, rfl, rfl, rfl, rfl, rfl, rfl⟩
theorem bitsV16 (m : Nat) : (bitsV m).toArray = #[.int .u64 (wd m 0 : Int), .int .u64 (wd m 1 : Int), .int .u64 (wd m 2 : Int), .int .u64 (wd m 3 : Int), .int .u64 (wd m 4 : Int), .int .u64 (wd m 5 : Int), .int .u64 (wd m 6 : Int), .int .u64 (wd m 7 : Int), .int .u64 (wd m 8 : Int), .int .u64 (wd m 9 : Int), .int .u64 (wd m 10 : Int), .int .u64 (wd m 11 : Int), .int .u64 (wd m 12 : Int), .int .u64 (wd m 13 : Int), .int .u64 (wd m 14 : Int), .int .u64 (wd m 15 : Int)] := rfl
set_option maxRecDepth 100000 in
theorem run_loadBits {W : World} {b m : Nat} {T : TypeId} (h : BoxB W b (bitsV m) T) : (Instr.loadAt 72 (.pointer (some ⟨b, 0, none⟩))).run Tryd.prog W = .ok (.agg (bitsV m).toArray) W := by
  have a0 := h.cell (l16 m).h0; have a1 := h.cell (l16 m).h1; have a2 := h.cell (l16 m).h2; have a3 := h.cell (l16 m).h3
  have a4 := h.cell (l16 m).h4; have a5 := h.cell (l16 m).h5; have a6 := h.cell (l16 m).h6; have a7 := h.cell (l16 m).h7
  have a8 := h.cell (l16 m).h8; have a9 := h.cell (l16 m).h9; have a10 := h.cell (l16 m).h10; have a11 := h.cell (l16 m).h11
  have a12 := h.cell (l16 m).h12; have a13 := h.cell (l16 m).h13; have a14 := h.cell (l16 m).h14; have a15 := h.cell (l16 m).h15
  rw [bitsV16]
  simp [go_sem, a0, a1, a2, a3, a4, a5, a6, a7, a8, a9, a10, a11, a12, a13, a14, a15]
set_option maxRecDepth 100000 in
theorem run_varBits {W : World} {b m : Nat} {T : TypeId} (h : BoxB W b (bitsV m) T) : (loadVar 72 ⟨b, 0, none⟩).run Tryd.prog W = .ok (.agg (bitsV m).toArray) W := by
  have a0 := h.cell (l16 m).h0; have a1 := h.cell (l16 m).h1; have a2 := h.cell (l16 m).h2; have a3 := h.cell (l16 m).h3
  have a4 := h.cell (l16 m).h4; have a5 := h.cell (l16 m).h5; have a6 := h.cell (l16 m).h6; have a7 := h.cell (l16 m).h7
  have a8 := h.cell (l16 m).h8; have a9 := h.cell (l16 m).h9; have a10 := h.cell (l16 m).h10; have a11 := h.cell (l16 m).h11
  have a12 := h.cell (l16 m).h12; have a13 := h.cell (l16 m).h13; have a14 := h.cell (l16 m).h14; have a15 := h.cell (l16 m).h15
  rw [bitsV16]
  simp [go_sem, a0, a1, a2, a3, a4, a5, a6, a7, a8, a9, a10, a11, a12, a13, a14, a15]
/-- A set handed back out of its box. -/
theorem results_bits {W : World} {b m : Nat} {T : TypeId} {fn : Func} {tmps : Array Value} {p : Tmp} (hf : fn.results = #[.cell p 72]) (hp : tmps.getD p undef = .pointer (some ⟨b, 0, none⟩)) (h : BoxB W b (bitsV m) T) :
    (results fn tmps).run Tryd.prog W = .ok (.agg (bitsV m).toArray) W := by
  unfold results
  rw [hf]
  simp only [List.mapM_toArray, List.mapM_cons, List.mapM_nil, hp, asAddr, Sem.run_bind, Sem.run_map, Sem.run_pure, Result.andThen_ok, run_varBits h]
  simp
theorem len16 {xs : List Value} (hl : xs.length = 16) : ∃ x0 x1 x2 x3 x4 x5 x6 x7 x8 x9 x10 x11 x12 x13 x14 x15, xs = [x0, x1, x2, x3, x4, x5, x6, x7, x8, x9, x10, x11, x12, x13, x14, x15] :=
  match xs, hl with
  | [x0, x1, x2, x3, x4, x5, x6, x7, x8, x9, x10, x11, x12, x13, x14, x15], _ => ⟨x0, x1, x2, x3, x4, x5, x6, x7, x8, x9, x10, x11, x12, x13, x14, x15, rfl⟩
theorem only_setCell (W : World) (b i : Nat) (u : Value) : Only b W (W.setCell ⟨b, i, none⟩ u) := ⟨rfl, rfl, rfl, by simp, fun _ hc => Below.heap_setCell _ _ _ _ hc⟩
theorem Only.trans {b : Nat} {w w1 w2 : World} (h : Only b w w1) (g : Only b w1 w2) : Only b w w2 := ⟨g.os.trans h.os, g.tape.trans h.tape, g.output.trans h.output, g.size.trans h.size, fun c hc => (g.block c hc).trans (h.block c hc)⟩
set_option maxRecDepth 100000 in
set_option maxHeartbeats 1000000 in
theorem run_storeBits {W : World} {b m : Nat} {xs : List Value} (h : BoxB W b xs 72) (hl : xs.length = 16) : ∃ W', (Instr.storeAt 72 (.pointer (some ⟨b, 0, none⟩)) (.agg (bitsV m).toArray)).run Tryd.prog W = .ok () W' ∧ BoxB W' b (bitsV m) 72 ∧ Only b W W' := by
  obtain ⟨x0, x1, x2, x3, x4, x5, x6, x7, x8, x9, x10, x11, x12, x13, x14, x15, rfl⟩ := len16 hl
  rw [bitsV16]
  have o0 : Only b W W := ⟨rfl, rfl, rfl, rfl, fun _ _ => rfl⟩
  have c0 := h.cell (i := 0) rfl; have f0 := h.fr 0
  have h1 := h.set 0 (.int .u64 (wd m 0 : Int)); have o1 := o0.trans (only_setCell _ b 0 (.int .u64 (wd m 0 : Int)))
  simp only [List.set_cons_zero] at h1
  have c1 := h1.cell (i := 1) rfl; have f1 := h1.fr 1
  have h2 := h1.set 1 (.int .u64 (wd m 1 : Int)); have o2 := o1.trans (only_setCell _ b 1 (.int .u64 (wd m 1 : Int)))
  simp only [List.set_cons_zero, List.set_cons_succ] at h2
  have c2 := h2.cell (i := 2) rfl; have f2 := h2.fr 2
  have h3 := h2.set 2 (.int .u64 (wd m 2 : Int)); have o3 := o2.trans (only_setCell _ b 2 (.int .u64 (wd m 2 : Int)))
  simp only [List.set_cons_zero, List.set_cons_succ] at h3
  have c3 := h3.cell (i := 3) rfl; have f3 := h3.fr 3
  have h4 := h3.set 3 (.int .u64 (wd m 3 : Int)); have o4 := o3.trans (only_setCell _ b 3 (.int .u64 (wd m 3 : Int)))
  simp only [List.set_cons_zero, List.set_cons_succ] at h4
  have c4 := h4.cell (i := 4) rfl; have f4 := h4.fr 4
  have h5 := h4.set 4 (.int .u64 (wd m 4 : Int)); have o5 := o4.trans (only_setCell _ b 4 (.int .u64 (wd m 4 : Int)))
  simp only [List.set_cons_zero, List.set_cons_succ] at h5
  have c5 := h5.cell (i := 5) rfl; have f5 := h5.fr 5
  have h6 := h5.set 5 (.int .u64 (wd m 5 : Int)); have o6 := o5.trans (only_setCell _ b 5 (.int .u64 (wd m 5 : Int)))
  simp only [List.set_cons_zero, List.set_cons_succ] at h6
  have c6 := h6.cell (i := 6) rfl; have f6 := h6.fr 6
  have h7 := h6.set 6 (.int .u64 (wd m 6 : Int)); have o7 := o6.trans (only_setCell _ b 6 (.int .u64 (wd m 6 : Int)))
  simp only [List.set_cons_zero, List.set_cons_succ] at h7
  have c7 := h7.cell (i := 7) rfl; have f7 := h7.fr 7
  have h8 := h7.set 7 (.int .u64 (wd m 7 : Int)); have o8 := o7.trans (only_setCell _ b 7 (.int .u64 (wd m 7 : Int)))
  simp only [List.set_cons_zero, List.set_cons_succ] at h8
  have c8 := h8.cell (i := 8) rfl; have f8 := h8.fr 8
  have h9 := h8.set 8 (.int .u64 (wd m 8 : Int)); have o9 := o8.trans (only_setCell _ b 8 (.int .u64 (wd m 8 : Int)))
  simp only [List.set_cons_zero, List.set_cons_succ] at h9
  have c9 := h9.cell (i := 9) rfl; have f9 := h9.fr 9
  have h10 := h9.set 9 (.int .u64 (wd m 9 : Int)); have o10 := o9.trans (only_setCell _ b 9 (.int .u64 (wd m 9 : Int)))
  simp only [List.set_cons_zero, List.set_cons_succ] at h10
  have c10 := h10.cell (i := 10) rfl; have f10 := h10.fr 10
  have h11 := h10.set 10 (.int .u64 (wd m 10 : Int)); have o11 := o10.trans (only_setCell _ b 10 (.int .u64 (wd m 10 : Int)))
  simp only [List.set_cons_zero, List.set_cons_succ] at h11
  have c11 := h11.cell (i := 11) rfl; have f11 := h11.fr 11
  have h12 := h11.set 11 (.int .u64 (wd m 11 : Int)); have o12 := o11.trans (only_setCell _ b 11 (.int .u64 (wd m 11 : Int)))
  simp only [List.set_cons_zero, List.set_cons_succ] at h12
  have c12 := h12.cell (i := 12) rfl; have f12 := h12.fr 12
  have h13 := h12.set 12 (.int .u64 (wd m 12 : Int)); have o13 := o12.trans (only_setCell _ b 12 (.int .u64 (wd m 12 : Int)))
  simp only [List.set_cons_zero, List.set_cons_succ] at h13
  have c13 := h13.cell (i := 13) rfl; have f13 := h13.fr 13
  have h14 := h13.set 13 (.int .u64 (wd m 13 : Int)); have o14 := o13.trans (only_setCell _ b 13 (.int .u64 (wd m 13 : Int)))
  simp only [List.set_cons_zero, List.set_cons_succ] at h14
  have c14 := h14.cell (i := 14) rfl; have f14 := h14.fr 14
  have h15 := h14.set 14 (.int .u64 (wd m 14 : Int)); have o15 := o14.trans (only_setCell _ b 14 (.int .u64 (wd m 14 : Int)))
  simp only [List.set_cons_zero, List.set_cons_succ] at h15
  have c15 := h15.cell (i := 15) rfl; have f15 := h15.fr 15
  have h16 := h15.set 15 (.int .u64 (wd m 15 : Int)); have o16 := o15.trans (only_setCell _ b 15 (.int .u64 (wd m 15 : Int)))
  simp only [List.set_cons_zero, List.set_cons_succ] at h16
  refine ⟨_, ?_, h16, o16⟩
  simp [go_sem, c0, f0, c1, f1, c2, f2, c3, f3, c4, f4, c5, f5, c6, f6, c7, f7, c8, f8, c9, f9, c10, f10, c11, f11, c12, f12, c13, f13, c14, f14, c15, f15]
section
variable {ops : Array Oper} {rest : List Oper} {o : Oper} {a : Act} {Q : Exit → Act → World → Prop} {W : World} {b m : Nat}
/-- A set is loaded. -/
theorem wp_loadBits (x : Operand) (hop : o.op = .load 72 x) (hg : o.guard = none) (hx : a.eval x = .pointer (some ⟨b, 0, none⟩)) {T : TypeId} (h : BoxB W b (bitsV m) T) (hk : wpList Tryd.prog ops Q rest (a.put o.dst (.agg (bitsV m).toArray)) W) : wpList Tryd.prog ops Q (o :: rest) a W := by
  unfold wpList
  rw [if_pos (by simp [Region.wanted, hg])]
  left
  have hr : (execOp a.eval o).run Tryd.prog W = .ok (.value (.agg (bitsV m).toArray)) W := by
    have h1 := run_loadBits h
    unfold execOp
    rw [hop]
    simp only [hx]
    have : (do let y ← Instr.loadAt 72 (.pointer (some ⟨b, 0, none⟩)); pure (Next.value y)).run Tryd.prog W = ((Instr.loadAt 72 (.pointer (some ⟨b, 0, none⟩))).run Tryd.prog W).andThen fun y w => .ok (.value y) w := by simp
    rw [this, h1]
    rfl
  unfold Oper.wp
  rw [hr]
  exact hk
/-- A set is stored into a box. -/
theorem wp_storeBits (x y : Operand) (hop : o.op = .store 72 x y) (hg : o.guard = none) (hx : a.eval x = .pointer (some ⟨b, 0, none⟩)) (hy : a.eval y = .agg (bitsV m).toArray) {xs : List Value} (h : BoxB W b xs 72) (hl : xs.length = 16)
    (hk : ∀ W', BoxB W' b (bitsV m) 72 → Only b W W' → wpList Tryd.prog ops Q rest (a.put o.dst undef) W') : wpList Tryd.prog ops Q (o :: rest) a W := by
  unfold wpList
  rw [if_pos (by simp [Region.wanted, hg])]
  left
  obtain ⟨W', h1, h2, h3⟩ := run_storeBits (m := m) h hl
  have hr : (execOp a.eval o).run Tryd.prog W = .ok .skip W' := by
    unfold execOp
    rw [hop]
    simp only [hx, hy]
    have : (do Instr.storeAt 72 (.pointer (some ⟨b, 0, none⟩)) (.agg (bitsV m).toArray); pure Next.skip).run Tryd.prog W = ((Instr.storeAt 72 (.pointer (some ⟨b, 0, none⟩)) (.agg (bitsV m).toArray)).run Tryd.prog W).andThen fun _ w => .ok .skip w := by simp
    rw [this, h1]
    rfl
  unfold Oper.wp
  rw [hr]
  exact hk W' h2 h3
end
def zeroV : List Value := bitsV 0
def mixV (c a j : Nat) : List Value := (List.range 16).map fun i => .int .u64 (((if i < j then wd c i else wd a i) : Nat) : Int)
theorem mixV_len (c a j : Nat) : (mixV c a j).length = 16 := by simp [mixV]
theorem mixV_zero (c a : Nat) : mixV c a 0 = bitsV a := by simp [mixV, bitsV]
theorem mixV_all (c a : Nat) : mixV c a 16 = bitsV c := by
  unfold mixV bitsV
  refine List.map_congr_left fun i hi => ?_
  rw [if_pos (List.mem_range.1 hi)]
theorem mixV_at (c a : Nat) {j : Nat} (h : j < 16) : (mixV c a j)[j]? = some (.int .u64 (wd a j : Int)) := by simp [mixV, h]
theorem mixV_set (c a : Nat) {j : Nat} (h : j < 16) : (mixV c a j).set j (.int .u64 (wd c j : Int)) = mixV c a (j + 1) := by
  apply List.ext_getElem?
  intro i
  rw [List.getElem?_set]
  by_cases e : j = i
  · subst e
    rw [if_pos rfl, if_pos (by rw [mixV_len]; exact h)]
    simp [mixV, h]
  · rw [if_neg e]
    by_cases hi : i < 16
    · simp only [mixV, List.getElem?_map, List.getElem?_range hi, Option.map_some, Option.some.injEq]
      by_cases h1 : i < j
      · rw [if_pos h1, if_pos (by omega)]
      · rw [if_neg h1, if_neg (by omega)]
    · rw [List.getElem?_eq_none (by rw [mixV_len]; omega), List.getElem?_eq_none (by rw [mixV_len]; omega)]
set_option maxRecDepth 100000 in
set_option maxHeartbeats 2000000 in
theorem eachOr_any (w : World) (a b : Nat) : Calls Tryd.prog 97 #[.agg (bitsV a).toArray, .agg (bitsV b).toArray, .func (.func 99) #[] #[]] w fun e w' => e = .returned (.agg (bitsV (a ||| b)).toArray) ∧ Below w.heap.size w w' := by
  have HW0 : Hid (∃ W0, W0 = (((w.alloc (.cells (bitsV a).toArray 72)).alloc (.cells (bitsV b).toArray 72)).alloc (.cells zeroV.toArray 72))) := ⟨_, rfl⟩
  have hA : BoxB (((w.alloc (.cells (bitsV a).toArray 72)).alloc (.cells (bitsV b).toArray 72)).alloc (.cells zeroV.toArray 72)) w.heap.size (bitsV a) 72 := ((BoxB.new w (bitsV a) _).below (below_alloc _ _)).below (below_alloc _ _)
  have hB : BoxB (((w.alloc (.cells (bitsV a).toArray 72)).alloc (.cells (bitsV b).toArray 72)).alloc (.cells zeroV.toArray 72)) (w.heap.size + 1) (bitsV b) 72 := by
    have := (BoxB.new (w.alloc (.cells (bitsV a).toArray 72)) (bitsV b) 72).below (below_alloc _ (.cells zeroV.toArray 72))
    simpa using this
  have hR : BoxB (((w.alloc (.cells (bitsV a).toArray 72)).alloc (.cells (bitsV b).toArray 72)).alloc (.cells zeroV.toArray 72)) (w.heap.size + 1 + 1) zeroV 72 := by
    have := BoxB.new ((w.alloc (.cells (bitsV a).toArray 72)).alloc (.cells (bitsV b).toArray 72)) zeroV 72
    simpa using this
  have HS : Hid (BoxB (((w.alloc (.cells (bitsV a).toArray 72)).alloc (.cells (bitsV b).toArray 72)).alloc (.cells zeroV.toArray 72)) w.heap.size (mixV (a ||| b) a 0) 72 ∧ BoxB (((w.alloc (.cells (bitsV a).toArray 72)).alloc (.cells (bitsV b).toArray 72)).alloc (.cells zeroV.toArray 72)) (w.heap.size + 1) (bitsV b) 72 ∧
      BoxB (((w.alloc (.cells (bitsV a).toArray 72)).alloc (.cells (bitsV b).toArray 72)).alloc (.cells zeroV.toArray 72)) (w.heap.size + 1 + 1) zeroV 72 ∧ Below w.heap.size w (((w.alloc (.cells (bitsV a).toArray 72)).alloc (.cells (bitsV b).toArray 72)).alloc (.cells zeroV.toArray 72))) :=
    ⟨by rw [mixV_zero]; exact hA, hB, hR, below_trans (below_trans (below_alloc _ _) (below_alloc _ _)) (below_alloc _ _)⟩
  clear hA hB hR HW0
  go_enter Tryd.func97, Tryd.ntmps97
  go_wp2_with fail
  rw [show (#[.int .u64 0, .int .u64 0, .int .u64 0, .int .u64 0, .int .u64 0, .int .u64 0, .int .u64 0, .int .u64 0, .int .u64 0, .int .u64 0, .int .u64 0, .int .u64 0, .int .u64 0, .int .u64 0, .int .u64 0, .int .u64 0] : Array Value) = zeroV.toArray from rfl]
  generalize (((w.alloc (.cells (bitsV a).toArray 72)).alloc (.cells (bitsV b).toArray 72)).alloc (.cells zeroV.toArray 72)) = W0 at *
  go_loopw [8] (fun i W => ∃ j : Nat, j ≤ 16 ∧ i = .int .i64 (j : Int) ∧ BoxB W w.heap.size (mixV (a ||| b) a j) 72 ∧ BoxB W (w.heap.size + 1) (bitsV b) 72 ∧ BoxB W (w.heap.size + 1 + 1) zeroV 72 ∧ Below w.heap.size w W) (fun i _ => 16 - (intOf i).toNat)
  case atStart => exact ⟨0, by omega, rfl, HS.out⟩
  case round =>
    obtain ⟨j, hj, rfl, h1, h2, h3, h4⟩ := hrel
    have H1 := Lib.hid h1; have H2 := Lib.hid h2; have H3 := Lib.hid h3; have H4 := Lib.hid h4
    clear h1 h2 h3 h4
    by_cases hlt : j < 16
    · as_aux_lemma =>
      have hji : (j : Int) < 16 := by omega
      have d1 := H1.out.cell (mixV_at (a ||| b) a hlt)
      have d2 := H2.out.cell (bitsV_at b hlt)
      have f1 := H1.out.fr j
      have HF : Hid (∀ W, Calls Tryd.prog 99 #[.int .u64 (wd a j : Int), .int .u64 (wd b j : Int)] W fun e w' => e = .returned (.int .u64 (wd (a ||| b) j : Int)) ∧ W = w') := fun W => by
        refine (orFn_any W _ _ (wd_lt a j) (wd_lt b j)).mono ?_
        rintro e w' ⟨rfl, rfl⟩
        exact ⟨by rw [wd_or], rfl⟩
      go_wp2_with fail
      obtain ⟨I, _, F, L⟩ := later wr
      have a1 := L.cell d1; have a2 := L.cell d2
      have HL := Lib.hid L
      clear L d1 d2
      refine wp_tailW (W := F) 10 (by kernel_rfl) (by kernel_rfl) HL.out.drew ?_
      simp only [List.take_succ_cons, List.take_zero, List.drop_succ_cons, List.drop_zero]
      repeat (go_big_quiet_step ((go_at_call 99; refine Later.call_same (HF.out _))))
      refine wpQuiet_nil ?_
      rintro w6 ⟨i6, rfl⟩
      have HB := Lib.hid (HL.out.bel i6)
      have d1 := a1 i6
      have f1 := (H1.out.below HB.out).fr j
      clear a1 a2 HL
      generalize F i6 = W6 at *
      have K1 := Lib.hid ((H1.out.below HB.out).set j (.int .u64 (wd (a ||| b) j : Int)))
      have K2 := Lib.hid ((H2.out.below HB.out).other (c := w.heap.size) (by omega) j (.int .u64 (wd (a ||| b) j : Int)))
      have K3 := Lib.hid ((H3.out.below HB.out).other (c := w.heap.size) (by omega) j (.int .u64 (wd (a ||| b) j : Int)))
      have K4 := Lib.hid ((below_trans H4.out HB.out).trans ((only_setCell W6 w.heap.size j (.int .u64 (wd (a ||| b) j : Int))).below (Nat.le_refl _)))
      go_wp2_with fail
      exact ⟨⟨j + 1, by omega, by go_num, by rw [← mixV_set _ _ hlt]; exact K1.out, K2.out, K3.out, K4.out⟩, by simp [intOf]; omega⟩
    · as_aux_lemma =>
      obtain rfl : j = 16 := by omega
      have h1 := H1.out
      rw [mixV_all] at h1
      have K1 := Lib.hid h1
      clear h1
      go_wp2_with (first
        | (refine wp_loadBits (.tmp 3) rfl rfl rfl K1.out ?_)
        | (refine wp_storeBits (.tmp 6) (.tmp 22) rfl rfl rfl rfl H3.out (by simp [zeroV, bitsV]) ?_; intro W7 hb7 ho7; have K7 := Lib.hid hb7; have K8 := Lib.hid (H4.out.trans (ho7.below (by omega))); clear hb7 ho7))
      exact bodyPost_ret (results_bits rfl rfl K7.out) rfl ⟨rfl, K8.out⟩
end Go.Dk
end

section
namespace Go.Dk
open Go.RowKit Go.Maps Go.MapKept
open Go.Proofs hiding intOf
/-- The three boxes with which a function of two sets begins. -/
theorem three (w : World) (a b : Nat) : BoxB (((w.alloc (.cells (bitsV a).toArray 72)).alloc (.cells (bitsV b).toArray 72)).alloc (.cells zeroV.toArray 72)) w.heap.size (bitsV a) 72 ∧ BoxB (((w.alloc (.cells (bitsV a).toArray 72)).alloc (.cells (bitsV b).toArray 72)).alloc (.cells zeroV.toArray 72)) (w.heap.size + 1) (bitsV b) 72 ∧
    BoxB (((w.alloc (.cells (bitsV a).toArray 72)).alloc (.cells (bitsV b).toArray 72)).alloc (.cells zeroV.toArray 72)) (w.heap.size + 1 + 1) zeroV 72 ∧ Below w.heap.size w (((w.alloc (.cells (bitsV a).toArray 72)).alloc (.cells (bitsV b).toArray 72)).alloc (.cells zeroV.toArray 72)) := by
  refine ⟨((BoxB.new w (bitsV a) _).below (below_alloc _ _)).below (below_alloc _ _), ?_, ?_, below_trans (below_trans (below_alloc _ _) (below_alloc _ _)) (below_alloc _ _)⟩
  · have := (BoxB.new (w.alloc (.cells (bitsV a).toArray 72)) (bitsV b) 72).below (below_alloc _ (.cells zeroV.toArray 72))
    simpa using this
  · have := BoxB.new ((w.alloc (.cells (bitsV a).toArray 72)).alloc (.cells (bitsV b).toArray 72)) zeroV 72
    simpa using this
set_option maxRecDepth 100000 in
set_option maxHeartbeats 2000000 in
theorem eachNot_any (w : World) (a b : Nat) : Calls Tryd.prog 97 #[.agg (bitsV a).toArray, .agg (bitsV b).toArray, .func (.func 98) #[] #[]] w fun e w' => e = .returned (.agg (bitsV (minusB a b)).toArray) ∧ Below w.heap.size w w' := by
  have HW0 : Hid (∃ W0, W0 = (((w.alloc (.cells (bitsV a).toArray 72)).alloc (.cells (bitsV b).toArray 72)).alloc (.cells zeroV.toArray 72))) := ⟨_, rfl⟩
  have hA : BoxB (((w.alloc (.cells (bitsV a).toArray 72)).alloc (.cells (bitsV b).toArray 72)).alloc (.cells zeroV.toArray 72)) w.heap.size (bitsV a) 72 := ((BoxB.new w (bitsV a) _).below (below_alloc _ _)).below (below_alloc _ _)
  have hB : BoxB (((w.alloc (.cells (bitsV a).toArray 72)).alloc (.cells (bitsV b).toArray 72)).alloc (.cells zeroV.toArray 72)) (w.heap.size + 1) (bitsV b) 72 := by
    have := (BoxB.new (w.alloc (.cells (bitsV a).toArray 72)) (bitsV b) 72).below (below_alloc _ (.cells zeroV.toArray 72))
    simpa using this
  have hR : BoxB (((w.alloc (.cells (bitsV a).toArray 72)).alloc (.cells (bitsV b).toArray 72)).alloc (.cells zeroV.toArray 72)) (w.heap.size + 1 + 1) zeroV 72 := by
    have := BoxB.new ((w.alloc (.cells (bitsV a).toArray 72)).alloc (.cells (bitsV b).toArray 72)) zeroV 72
    simpa using this
  have HS : Hid (BoxB (((w.alloc (.cells (bitsV a).toArray 72)).alloc (.cells (bitsV b).toArray 72)).alloc (.cells zeroV.toArray 72)) w.heap.size (mixV (minusB a b) a 0) 72 ∧ BoxB (((w.alloc (.cells (bitsV a).toArray 72)).alloc (.cells (bitsV b).toArray 72)).alloc (.cells zeroV.toArray 72)) (w.heap.size + 1) (bitsV b) 72 ∧
      BoxB (((w.alloc (.cells (bitsV a).toArray 72)).alloc (.cells (bitsV b).toArray 72)).alloc (.cells zeroV.toArray 72)) (w.heap.size + 1 + 1) zeroV 72 ∧ Below w.heap.size w (((w.alloc (.cells (bitsV a).toArray 72)).alloc (.cells (bitsV b).toArray 72)).alloc (.cells zeroV.toArray 72))) :=
    ⟨by rw [mixV_zero]; exact hA, hB, hR, below_trans (below_trans (below_alloc _ _) (below_alloc _ _)) (below_alloc _ _)⟩
  clear hA hB hR HW0
  go_enter Tryd.func97, Tryd.ntmps97
  go_wp2_with fail
  rw [show (#[.int .u64 0, .int .u64 0, .int .u64 0, .int .u64 0, .int .u64 0, .int .u64 0, .int .u64 0, .int .u64 0, .int .u64 0, .int .u64 0, .int .u64 0, .int .u64 0, .int .u64 0, .int .u64 0, .int .u64 0, .int .u64 0] : Array Value) = zeroV.toArray from rfl]
  generalize (((w.alloc (.cells (bitsV a).toArray 72)).alloc (.cells (bitsV b).toArray 72)).alloc (.cells zeroV.toArray 72)) = W0 at *
  go_loopw [8] (fun i W => ∃ j : Nat, j ≤ 16 ∧ i = .int .i64 (j : Int) ∧ BoxB W w.heap.size (mixV (minusB a b) a j) 72 ∧ BoxB W (w.heap.size + 1) (bitsV b) 72 ∧ BoxB W (w.heap.size + 1 + 1) zeroV 72 ∧ Below w.heap.size w W) (fun i _ => 16 - (intOf i).toNat)
  case atStart => exact ⟨0, by omega, rfl, HS.out⟩
  case round =>
    obtain ⟨j, hj, rfl, h1, h2, h3, h4⟩ := hrel
    have H1 := Lib.hid h1; have H2 := Lib.hid h2; have H3 := Lib.hid h3; have H4 := Lib.hid h4
    clear h1 h2 h3 h4
    by_cases hlt : j < 16
    · as_aux_lemma =>
      have hji : (j : Int) < 16 := by omega
      have d1 := H1.out.cell (mixV_at (minusB a b) a hlt)
      have d2 := H2.out.cell (bitsV_at b hlt)
      have f1 := H1.out.fr j
      have HF : Hid (∀ W, Calls Tryd.prog 98 #[.int .u64 (wd a j : Int), .int .u64 (wd b j : Int)] W fun e w' => e = .returned (.int .u64 (wd (minusB a b) j : Int)) ∧ W = w') := fun W => by
        refine (notFn_any W _ _ (wd_lt a j) (wd_lt b j)).mono ?_
        rintro e w' ⟨rfl, rfl⟩
        exact ⟨by rw [wd_minus], rfl⟩
      go_wp2_with fail
      obtain ⟨I, _, F, L⟩ := later wr
      have a1 := L.cell d1; have a2 := L.cell d2
      have HL := Lib.hid L
      clear L d1 d2
      refine wp_tailW (W := F) 10 (by kernel_rfl) (by kernel_rfl) HL.out.drew ?_
      simp only [List.take_succ_cons, List.take_zero, List.drop_succ_cons, List.drop_zero]
      repeat (go_big_quiet_step ((go_at_call 98; refine Later.call_same (HF.out _))))
      refine wpQuiet_nil ?_
      rintro w6 ⟨i6, rfl⟩
      have HB := Lib.hid (HL.out.bel i6)
      have d1 := a1 i6
      have f1 := (H1.out.below HB.out).fr j
      clear a1 a2 HL
      generalize F i6 = W6 at *
      have K1 := Lib.hid ((H1.out.below HB.out).set j (.int .u64 (wd (minusB a b) j : Int)))
      have K2 := Lib.hid ((H2.out.below HB.out).other (c := w.heap.size) (by omega) j (.int .u64 (wd (minusB a b) j : Int)))
      have K3 := Lib.hid ((H3.out.below HB.out).other (c := w.heap.size) (by omega) j (.int .u64 (wd (minusB a b) j : Int)))
      have K4 := Lib.hid ((below_trans H4.out HB.out).trans ((only_setCell W6 w.heap.size j (.int .u64 (wd (minusB a b) j : Int))).below (Nat.le_refl _)))
      go_wp2_with fail
      exact ⟨⟨j + 1, by omega, by go_num, by rw [← mixV_set _ _ hlt]; exact K1.out, K2.out, K3.out, K4.out⟩, by simp [intOf]; omega⟩
    · as_aux_lemma =>
      obtain rfl : j = 16 := by omega
      have h1 := H1.out
      rw [mixV_all] at h1
      have K1 := Lib.hid h1
      clear h1
      go_wp2_with (first
        | (refine wp_loadBits (.tmp 3) rfl rfl rfl K1.out ?_)
        | (refine wp_storeBits (.tmp 6) (.tmp 22) rfl rfl rfl rfl H3.out (by simp [zeroV, bitsV]) ?_; intro W7 hb7 ho7; have K7 := Lib.hid hb7; have K8 := Lib.hid (H4.out.trans (ho7.below (by omega))); clear hb7 ho7))
      exact bodyPost_ret (results_bits rfl rfl K7.out) rfl ⟨rfl, K8.out⟩
set_option maxRecDepth 100000 in
set_option maxHeartbeats 1000000 in
theorem union_any (w : World) (a b : Nat) : Calls Tryd.prog 89 #[.agg (bitsV a).toArray, .agg (bitsV b).toArray] w fun e w' => e = .returned (.agg (bitsV (a ||| b)).toArray) ∧ Below w.heap.size w w' := by
  have HS := Lib.hid (three w a b)
  go_enter Tryd.func89, Tryd.ntmps89
  go_wp2_with (first
    | (rw [show (#[.int .u64 0, .int .u64 0, .int .u64 0, .int .u64 0, .int .u64 0, .int .u64 0, .int .u64 0, .int .u64 0, .int .u64 0, .int .u64 0, .int .u64 0, .int .u64 0, .int .u64 0, .int .u64 0, .int .u64 0, .int .u64 0] : Array Value) = zeroV.toArray from rfl]; generalize (((w.alloc (.cells (bitsV a).toArray 72)).alloc (.cells (bitsV b).toArray 72)).alloc (.cells zeroV.toArray 72)) = W0 at *; refine wp_loadBits (.tmp 2) rfl rfl rfl HS.out.1 ?_)
    | (refine wp_loadBits (.tmp 2) rfl rfl rfl HS.out.1 ?_)
    | (refine wp_loadBits (.tmp 3) rfl rfl rfl HS.out.2.1 ?_)
    | (go_at_call 97; refine (eachOr_any _ a b).mono ?_; rintro e W1 ⟨rfl, hb1⟩; have HR := Lib.hid (HS.out.2.2.1.below hb1); have HB := Lib.hid (below_trans HS.out.2.2.2 hb1); clear hb1)
    | (refine wp_storeBits (.tmp 4) (.tmp 7) rfl rfl rfl rfl HR.out (by simp [zeroV, bitsV]) ?_; intro W7 hb7 ho7; have K7 := Lib.hid hb7; have K8 := Lib.hid (HB.out.trans (ho7.below (by omega))); clear hb7 ho7))
  exact bodyPost_ret (results_bits rfl rfl K7.out) rfl ⟨rfl, K8.out⟩
set_option maxRecDepth 100000 in
set_option maxHeartbeats 1000000 in
theorem minus_any (w : World) (a b : Nat) : Calls Tryd.prog 88 #[.agg (bitsV a).toArray, .agg (bitsV b).toArray] w fun e w' => e = .returned (.agg (bitsV (minusB a b)).toArray) ∧ Below w.heap.size w w' := by
  have HS := Lib.hid (three w a b)
  go_enter Tryd.func88, Tryd.ntmps88
  go_wp2_with (first
    | (rw [show (#[.int .u64 0, .int .u64 0, .int .u64 0, .int .u64 0, .int .u64 0, .int .u64 0, .int .u64 0, .int .u64 0, .int .u64 0, .int .u64 0, .int .u64 0, .int .u64 0, .int .u64 0, .int .u64 0, .int .u64 0, .int .u64 0] : Array Value) = zeroV.toArray from rfl]; generalize (((w.alloc (.cells (bitsV a).toArray 72)).alloc (.cells (bitsV b).toArray 72)).alloc (.cells zeroV.toArray 72)) = W0 at *; refine wp_loadBits (.tmp 2) rfl rfl rfl HS.out.1 ?_)
    | (refine wp_loadBits (.tmp 2) rfl rfl rfl HS.out.1 ?_)
    | (refine wp_loadBits (.tmp 3) rfl rfl rfl HS.out.2.1 ?_)
    | (go_at_call 97; refine (eachNot_any _ a b).mono ?_; rintro e W1 ⟨rfl, hb1⟩; have HR := Lib.hid (HS.out.2.2.1.below hb1); have HB := Lib.hid (below_trans HS.out.2.2.2 hb1); clear hb1)
    | (refine wp_storeBits (.tmp 4) (.tmp 7) rfl rfl rfl rfl HR.out (by simp [zeroV, bitsV]) ?_; intro W7 hb7 ho7; have K7 := Lib.hid hb7; have K8 := Lib.hid (HB.out.trans (ho7.below (by omega))); clear hb7 ho7))
  exact bodyPost_ret (results_bits rfl rfl K7.out) rfl ⟨rfl, K8.out⟩
end Go.Dk
end

section
namespace Go.Dk
open Go.RowKit Go.Maps Go.MapKept
open Go.Proofs hiding intOf
/-- The set of some numbers. -/
def maskOf (ns : List Nat) : Nat := ns.foldl (fun m n => m ||| 1 <<< n) 0
theorem maskOf_take (ns : List Nat) {j : Nat} (h : j < ns.length) : maskOf (ns.take (j + 1)) = maskOf (ns.take j) ||| 1 <<< ns[j] := by
  unfold maskOf
  rw [List.take_succ_eq_append_getElem h, List.foldl_append]
  rfl
theorem maskOf_one (n : Nat) : maskOf [n] = 1 <<< n := by simp [maskOf]
theorem bitsV_or_one (m : Nat) {n : Nat} (_hn : n < 1024) : (bitsV m).set (n / 64) (.int .u64 ((wd m (n / 64) ||| 1 <<< (n % 64) : Nat) : Int)) = bitsV (m ||| 1 <<< n) := by
  apply List.ext_getElem?
  intro i
  rw [List.getElem?_set]
  by_cases hi : i < 16
  · rw [bitsV_at _ hi, bitsV_at _ hi]
    by_cases e : n / 64 = i
    · subst e
      rw [if_pos rfl, if_pos (by rw [bitsV_len]; exact hi), wd_or, wd_one, if_pos rfl]
    · rw [if_neg e, wd_or, wd_one, if_neg (fun h => e h.symm), Nat.or_zero]
  · rw [List.getElem?_eq_none (by rw [bitsV_len]; omega), List.getElem?_eq_none (by rw [bitsV_len]; omega)]
    split
    · rw [if_neg (by rw [bitsV_len]; omega)]
    · rfl
theorem shl_one (n : Nat) : IntKind.u64.wrap (2 ^ (n % 64)) = ((1 <<< (n % 64) : Nat) : Int) := by
  have h : 2 ^ (n % 64) < 2 ^ 64 := Nat.pow_lt_pow_right (by decide) (Nat.mod_lt _ (by decide))
  have h2 : ((2 : Int) ^ (n % 64)) = ((2 ^ (n % 64) : Nat) : Int) := by push_cast; rfl
  rw [IntKind.wrap_u64, Nat.one_shiftLeft, h2]
  generalize 2 ^ (n % 64) = x at *
  omega
theorem word_one (m n : Nat) : bits .or .u64 (wd m (n / 64) : Int) (IntKind.u64.wrap (2 ^ (n % 64))) = ((wd m (n / 64) ||| 1 <<< (n % 64) : Nat) : Int) := by
  rw [shl_one]
  exact word_or _ _ (wd_lt _ _) (one_lt (Nat.mod_lt _ (by decide)))
theorem results_bits2 {W : World} {b m : Nat} {T : TypeId} {fn : Func} {tmps : Array Value} {p q : Tmp} {v : Value} (hf : fn.results = #[.cell p 72, .tmp q]) (hp : tmps.getD p undef = .pointer (some ⟨b, 0, none⟩)) (hq : tmps.getD q undef = v) (h : BoxB W b (bitsV m) T) :
    (results fn tmps).run Tryd.prog W = .ok (.tuple #[.agg (bitsV m).toArray, v]) W := by
  unfold results
  rw [hf]
  simp only [List.mapM_toArray, List.mapM_cons, List.mapM_nil, hp, hq, asAddr, Sem.run_bind, Sem.run_map, Sem.run_pure, Result.andThen_ok, run_varBits h]
  simp
set_option maxRecDepth 100000 in
set_option maxHeartbeats 2000000 in
theorem of_any (w : World) (g o c : Nat) (ns : List Nat) (hl : ns.length < 2 ^ 62) (hn : ∀ n ∈ ns, n < 1024) (hs : ∀ j (h : j < ns.length), w.cell? ⟨g, o + j, none⟩ = some (.int .i64 (ns[j] : Int))) :
    Calls Tryd.prog 27 #[.slice (some ⟨g, o, none⟩) ns.length c] w fun e w' => e = .returned (.tuple #[.agg (bitsV (maskOf ns)).toArray, .int .i64 0]) ∧ Below w.heap.size w w' := by
  have HZ : Hid (BoxB ((w.alloc (.cells zeroV.toArray 72)).alloc (.cells zeroV.toArray 72)) w.heap.size zeroV 72 ∧ BoxB ((w.alloc (.cells zeroV.toArray 72)).alloc (.cells zeroV.toArray 72)) (w.heap.size + 1) (bitsV (maskOf (ns.take 0))) 72 ∧ Below w.heap.size w ((w.alloc (.cells zeroV.toArray 72)).alloc (.cells zeroV.toArray 72))) := by
    refine ⟨(BoxB.new w zeroV _).below (below_alloc _ _), ?_, below_trans (below_alloc _ _) (below_alloc _ _)⟩
    have := BoxB.new (w.alloc (.cells zeroV.toArray 72)) zeroV 72
    simpa [maskOf, zeroV] using this
  have HN := Lib.hid hn
  have HL := Lib.hid hl
  have HC := Lib.hid hs
  clear hn hl hs
  go_enter Tryd.func27, Tryd.ntmps27
  go_wp2_with fail
  rw [show (#[.int .u64 0, .int .u64 0, .int .u64 0, .int .u64 0, .int .u64 0, .int .u64 0, .int .u64 0, .int .u64 0, .int .u64 0, .int .u64 0, .int .u64 0, .int .u64 0, .int .u64 0, .int .u64 0, .int .u64 0, .int .u64 0] : Array Value) = zeroV.toArray from rfl]
  generalize ((w.alloc (.cells zeroV.toArray 72)).alloc (.cells zeroV.toArray 72)) = W0 at *
  go_loopw [9] (fun i W => ∃ j : Nat, j ≤ ns.length ∧ i = .int .i64 (j : Int) ∧ BoxB W w.heap.size zeroV 72 ∧ BoxB W (w.heap.size + 1) (bitsV (maskOf (ns.take j))) 72 ∧ Below w.heap.size w W) (fun i _ => ns.length - (intOf i).toNat)
  case atStart => exact ⟨0, by omega, rfl, HZ.out.1, HZ.out.2.1, HZ.out.2.2⟩
  case round =>
    obtain ⟨j, hj, rfl, h1, h2, h3⟩ := hrel
    have H1 := Lib.hid h1; have H2 := Lib.hid h2; have H3 := Lib.hid h3
    clear h1 h2 h3
    by_cases hlt : j < ns.length
    · as_aux_lemma =>
      have hji : (j : Int) < (ns.length : Int) := by omega
      have hz := HC.out j hlt
      have hcell := (H3.out.cell (World.block_lt_of_cell? _ _ hz)).trans hz
      obtain ⟨n, hnj⟩ : ∃ n, n = ns[j] := ⟨_, rfl⟩
      rw [← hnj] at hcell
      have hn : n < 1024 := by rw [hnj]; exact HN.out _ (List.getElem_mem hlt)
      have HM : Hid (maskOf (ns.take (j + 1)) = maskOf (ns.take j) ||| 1 <<< n) := by rw [hnj]; exact maskOf_take ns hlt
      have d2 := H2.out.cell (bitsV_at (maskOf (ns.take j)) (i := n / 64) (by omega))
      have f2 := H2.out.fr (n / 64)
      have hI : insideB (n : Int) = true := by simp [insideB]; omega
      have HI := Lib.hid (fun W => inside_any W (n : Int))
      rw [hI] at HI
      clear hI hz hnj
      go_wp2_with (go_at_call 37; refine (HI.out _).mono ?_; rintro e w' ⟨rfl, hw⟩; rw [hw]; clear hw)
      obtain ⟨I, _, F, L⟩ := later wr
      have a2 := L.cell d2
      have HF := Lib.hid L
      clear L d2
      refine wp_tailW (W := F) 9 (by kernel_rfl) (by kernel_rfl) HF.out.drew ?_
      simp only [List.take_succ_cons, List.take_zero, List.drop_succ_cons, List.drop_zero]
      repeat (go_big_quiet_step (fail))
      refine wpQuiet_nil ?_
      rintro w6 ⟨i6, rfl⟩
      have HB := Lib.hid (HF.out.bel i6)
      have d2 := a2 i6
      have f2 := (H2.out.below HB.out).fr (n / 64)
      clear a2 HF
      generalize F i6 = W6 at *
      rw [word_one]
      have K1 := Lib.hid ((H1.out.below HB.out).other (c := w.heap.size + 1) (by omega) (n / 64) (.int .u64 ((wd (maskOf (ns.take j)) (n / 64) ||| 1 <<< (n % 64) : Nat) : Int)))
      have K2 := Lib.hid ((H2.out.below HB.out).set (n / 64) (.int .u64 ((wd (maskOf (ns.take j)) (n / 64) ||| 1 <<< (n % 64) : Nat) : Int)))
      have K3 := Lib.hid ((below_trans H3.out HB.out).trans ((only_setCell W6 (w.heap.size + 1) (n / 64) (.int .u64 ((wd (maskOf (ns.take j)) (n / 64) ||| 1 <<< (n % 64) : Nat) : Int))).below (Nat.le_succ _)))
      have HLL := HL.out
      clear HI
      go_wp2_with fail
      exact ⟨⟨j + 1, by omega, by go_num, K1.out, by rw [HM.out, ← bitsV_or_one _ hn]; exact K2.out, K3.out⟩, by simp [intOf]; omega⟩
    · as_aux_lemma =>
      obtain rfl : j = ns.length := by omega
      have h2 := H2.out
      rw [List.take_length] at h2
      have K2 := Lib.hid h2
      clear h2
      go_wp2_with (first
        | (refine wp_loadBits (.tmp 4) rfl rfl rfl K2.out ?_)
        | (refine wp_storeBits (.tmp 2) (.tmp 27) rfl rfl rfl rfl H1.out (by simp [zeroV, bitsV]) ?_; intro W7 hb7 ho7; have K7 := Lib.hid hb7; have K8 := Lib.hid (H3.out.trans (ho7.below (by omega))); clear hb7 ho7))
      exact bodyPost_ret (results_bits2 rfl rfl rfl K7.out) rfl ⟨rfl, K8.out⟩
set_option maxRecDepth 100000 in
set_option maxHeartbeats 1000000 in
theorem drop_any (w : World) (m n : Nat) (hn : n < 1024) : Calls Tryd.prog 71 #[.agg (bitsV m).toArray, .int .i64 (n : Int)] w fun e w' => e = .returned (.agg (bitsV (dropB m n)).toArray) ∧ Below w.heap.size w w' := by
  have HS : Hid (BoxB ((w.alloc (.cells (bitsV m).toArray 72)).alloc (.cells zeroV.toArray 72)) w.heap.size (bitsV m) 72 ∧ BoxB ((w.alloc (.cells (bitsV m).toArray 72)).alloc (.cells zeroV.toArray 72)) (w.heap.size + 1) zeroV 72 ∧ Below w.heap.size w ((w.alloc (.cells (bitsV m).toArray 72)).alloc (.cells zeroV.toArray 72))) := by
    refine ⟨(BoxB.new w (bitsV m) _).below (below_alloc _ _), ?_, below_trans (below_alloc _ _) (below_alloc _ _)⟩
    have := BoxB.new (w.alloc (.cells (bitsV m).toArray 72)) zeroV 72
    simpa using this
  go_enter Tryd.func71, Tryd.ntmps71
  go_wp2_with (first
    | (rw [show (#[.int .u64 0, .int .u64 0, .int .u64 0, .int .u64 0, .int .u64 0, .int .u64 0, .int .u64 0, .int .u64 0, .int .u64 0, .int .u64 0, .int .u64 0, .int .u64 0, .int .u64 0, .int .u64 0, .int .u64 0, .int .u64 0] : Array Value) = zeroV.toArray from rfl]; generalize ((w.alloc (.cells (bitsV m).toArray 72)).alloc (.cells zeroV.toArray 72)) = W0 at *)
    | (go_at_call 27; go_loud (refine (of_any (W0.alloc (.cells #[.int .i64 (n : Int)] 3)) W0.heap.size 0 1 [n] (by simp) (by simpa using hn) (fun j h => by simp at h; subst h; exact World.cell?_alloc_at _ _ _ _ rfl)).mono ?_; rintro e W1 ⟨rfl, hb1⟩; rw [maskOf_one]; have HB1 := Lib.hid ((below_alloc W0 _).trans (hb1.mono (by simp))); clear hb1))
    | (refine wp_storeBits (.tmp 5) (.tmp 11) rfl rfl rfl rfl (BoxB.new W1 zeroV 72) (by simp [zeroV, bitsV]) ?_; intro W2 hb2 ho2; have HK2 := Lib.hid hb2; have HB2 := Lib.hid (HB1.out.trans (((below_alloc W1 _).trans (ho2.below (Nat.le_refl _))).mono HB1.out.size)); clear hb2 ho2)
    | (refine wp_loadBits (.tmp 2) rfl rfl rfl (HS.out.1.below HB2.out) ?_)
    | (refine wp_loadBits (.tmp 5) rfl rfl rfl HK2.out ?_)
    | (go_at_call 88; refine (minus_any _ m (1 <<< n)).mono ?_; rintro e W3 ⟨rfl, hb3⟩; rw [minus_one]; have HR := Lib.hid ((HS.out.2.1.below HB2.out).below hb3); have HB := Lib.hid (below_trans (below_trans HS.out.2.2 HB2.out) hb3); clear hb3)
    | (refine wp_storeBits (.tmp 4) (.tmp 15) rfl rfl rfl rfl HR.out (by simp [zeroV, bitsV]) ?_; intro W7 hb7 ho7; have K7 := Lib.hid hb7; have K8 := Lib.hid (HB.out.trans (ho7.below (by omega))); clear hb7 ho7))
  exact bodyPost_ret (results_bits rfl rfl K7.out) rfl ⟨rfl, K8.out⟩
end Go.Dk
end

section
namespace Go.Dk
def harF : Fm → Bool
  | .atom _ => true
  | .bot => true
  | .and a b => harF a && harF b
  | .or _ _ => false
  | .imp _ b => harF b
def harB (rows : List ND) (i : Nat) : Bool := harF (tree rows i)
theorem harB_leaf {rows : List ND} (ok : Ok rows) {i : Nat} {n : ND} (hi : rows[i]? = some n) (h3 : n.kind ≠ 3) (h5 : n.kind ≠ 5) : harB rows i = !decide (n.kind = 4) := by
  rcases tree_row ok hi with ⟨s, rfl, ht, _⟩ | ⟨rfl, ht⟩ | ⟨l, r, _, _, ⟨rfl, ht⟩ | ⟨rfl, ht⟩ | ⟨rfl, ht⟩⟩
  · simp [harB, ht, harF]
  · simp [harB, ht, harF]
  · exact absurd rfl h3
  · simp [harB, ht, harF]
  · exact absurd rfl h5
theorem harB_and {rows : List ND} (ok : Ok rows) {i : Nat} {n : ND} (hi : rows[i]? = some n) (h3 : n.kind = 3) : harB rows i = (harB rows n.l.toNat && harB rows n.r.toNat) := by
  unfold harB
  rw [tree_two ok hi (by omega)]
  simp [treeOf, h3, harF]
theorem harB_imp {rows : List ND} (ok : Ok rows) {i : Nat} {n : ND} (hi : rows[i]? = some n) (h5 : n.kind = 5) : harB rows i = harB rows n.r.toNat := by
  unfold harB
  rw [tree_two ok hi (by omega)]
  simp [treeOf, h5, harF]
def natsOf (zs : List Int) : List Nat := zs.map Int.toNat
def askR (rows : List ND) (ns : List Nat) (g : Nat) : SA := decideL 4096 ⟨rows, [], 4096⟩ ⟨maskOf ns, g⟩
def askE (rows : List ND) (ns : List Nat) (g : Nat) : Int := if (askR rows ns g).err = 0 then 0 else 110
def askB (rows : List ND) (ns : List Nat) (g : Nat) : Bool := decide ((askR rows ns g).err = 0) && provedAt (askR rows ns g).st (askR rows ns g).at_
theorem testBit_foldl (ns : List Nat) (m i : Nat) : (ns.foldl (fun m n => m ||| 1 <<< n) m).testBit i = (m.testBit i || decide (i ∈ ns)) := by
  induction ns generalizing m with
  | nil => simp
  | cons a t ih =>
    rw [List.foldl_cons, ih, Nat.testBit_or, Nat.one_shiftLeft, Nat.testBit_two_pow]
    by_cases e : a = i
    · subst e; simp
    · have e2 : ¬ i = a := fun h => e h.symm
      simp [e, e2]
theorem testBit_mask (ns : List Nat) (i : Nat) : (maskOf ns).testBit i = decide (i ∈ ns) := by
  unfold maskOf; rw [testBit_foldl]; simp
theorem wf_mask {rows : List ND} {ns : List Nat} {g : Nat} (hn : ∀ n ∈ ns, n < rows.length) (hg : g < rows.length) : Wf rows ⟨maskOf ns, g⟩ :=
  ⟨fun i hi => by rw [testBit_mask] at hi; exact hn i (by simpa using hi), hg⟩
theorem askE_cases (rows : List ND) (ns : List Nat) (g : Nat) : askE rows ns g = 0 ∨ askE rows ns g = 110 := by
  unfold askE; split
  · exact .inl rfl
  · exact .inr rfl
def disjP (rows : List ND) (zs : List Int) (goal : Int) : Int × Int :=
  if lookE rows (zs ++ [goal]) ≠ 0 then (0, 31)
  else if (rowAt rows goal.toNat).kind ≠ 4 then (0, 270)
  else if (zs.all fun z => harB rows z.toNat) = false then (0, 270)
  else if askE rows (natsOf zs) goal.toNat ≠ 0 then (0, 110)
  else if askB rows (natsOf zs) goal.toNat = false then (0, 2)
  else if askE rows (natsOf zs) (rowAt rows goal.toNat).l.toNat ≠ 0 then (0, 110)
  else if askB rows (natsOf zs) (rowAt rows goal.toNat).l.toNat = true then ((rowAt rows goal.toNat).l, 0)
  else if askE rows (natsOf zs) (rowAt rows goal.toNat).r.toNat ≠ 0 then (0, 110)
  else ((rowAt rows goal.toNat).r, 0)
structure MK where
  rows : List ND
  e : Int
def mkPut (m : MK) (n : ND) : MK := if m.e ≠ 0 then m else ⟨(put m.rows n).rows, (put m.rows n).err⟩
def mkId (m : MK) (n : ND) : Int := if m.e ≠ 0 then 0 else (put m.rows n).id
def nd2 (k a b : Int) : ND := ⟨k, ⟨#[]⟩, a, b⟩
def impsV : List (Int × Int) → MK → List Int → MK × List Int
  | [], m, l => (m, l)
  | p :: t, m, l => impsV t (mkPut m (nd2 5 p.1 p.2)) (l ++ [mkId m (nd2 5 p.1 p.2)])
def allV : List Int → MK → Int → MK × Int
  | [], m, x => (m, x)
  | y :: t, m, x => allV t (mkPut m (nd2 3 x y)) (mkId m (nd2 3 x y))
def topV (m : MK) : MK × Int :=
  (mkPut (mkPut m (nd2 2 0 0)) (nd2 5 (mkId m (nd2 2 0 0)) (mkId m (nd2 2 0 0))), mkId (mkPut m (nd2 2 0 0)) (nd2 5 (mkId m (nd2 2 0 0)) (mkId m (nd2 2 0 0))))
def conjV : List Int → MK → MK × Int
  | [], m => topV m
  | x :: t, m => allV t m x
def partsV (all : Int) : List Int → MK → List Int → MK × List Int
  | [], m, l => (m, l)
  | g :: t, m, l => partsV all t (mkPut m (nd2 5 all g)) (l ++ [mkId m (nd2 5 all g)])
structure VR where
  rows : List ND
  prem : Int
  parts : List Int
  err : Int
/-- Without what stands ahead. -/
def ruleV (rows : List ND) (ab : List (Int × Int)) (goals : List Int) (c d : Int) : MK × Int × List Int :=
  let i := impsV ab ⟨rows, 0⟩ []
  let a := conjV i.2 i.1
  let m1 := mkPut a.1 (nd2 4 c d)
  let o := mkId a.1 (nd2 4 c d)
  let m2 := mkPut m1 (nd2 5 a.2 o)
  let p := mkId m1 (nd2 5 a.2 o)
  let q := partsV a.2 goals m2 []
  (q.1, p, q.2)
def visserP (rows : List ND) (a b : List Int) (c d : Int) : VR :=
  if lookE rows (a ++ b ++ [c, d]) ≠ 0 then ⟨rows, 0, [], 31⟩
  else if a.length ≠ b.length ∨ 8 < a.length then ⟨rows, 0, [], 270⟩
  else if (ruleV rows (a.zip b) (a ++ [c, d]) c d).1.e ≠ 0 then ⟨rows, 0, [], (ruleV rows (a.zip b) (a ++ [c, d]) c d).1.e⟩
  else ⟨(ruleV rows (a.zip b) (a ++ [c, d]) c d).1.rows, (ruleV rows (a.zip b) (a ++ [c, d]) c d).2.1, (ruleV rows (a.zip b) (a ++ [c, d]) c d).2.2, 0⟩
/-- The number z is a row that has the tree T. -/
def IdT (rows : List ND) (z : Int) (T : Fm) : Prop := ∃ i : Nat, z = (i : Int) ∧ i < rows.length ∧ tree rows i = T
theorem IdT.ext {rows rows' : List ND} {z : Int} {T : Fm} (h : IdT rows z T) (hp : rows <+: rows') : IdT rows' z T := by
  obtain ⟨i, rfl, h1, h2⟩ := h
  exact ⟨i, rfl, Nat.lt_of_lt_of_le h1 (prefix_length hp), by rw [tree_prefix hp h1]; exact h2⟩
theorem IdT.of_has {rows : List ND} {z : Int} (h : hasB rows.length z = true) : IdT rows z (tree rows z.toNat) := by
  obtain ⟨i, rfl, h1⟩ := nat_of_has h
  exact ⟨i, rfl, h1, by simp⟩
/-- A state behind another one, without an error. -/
structure MkTo (m m' : MK) : Prop where
  e : m'.e = 0 → m.e = 0
  pre : m.rows <+: m'.rows
  ok : Ok m.rows → Ok m'.rows
theorem MkTo.refl (m : MK) : MkTo m m := ⟨id, List.prefix_refl _, id⟩
theorem MkTo.trans {a b c : MK} (h : MkTo a b) (g : MkTo b c) : MkTo a c := ⟨fun e => h.e (g.e e), h.pre.trans g.pre, fun o => g.ok (h.ok o)⟩
theorem mkPut_to (m : MK) (n : ND) : MkTo m (mkPut m n) := by
  unfold mkPut
  split
  · exact MkTo.refl m
  · rename_i h
    exact ⟨fun _ => by simpa using h, put_prefix _ _, fun o => o.put _⟩
theorem mkPut_two {m : MK} (ok : Ok m.rows) {k : Int} (hk : k = 3 ∨ k = 4 ∨ k = 5) {x y : Int} {X Y : Fm} (hx : IdT m.rows x X) (hy : IdT m.rows y Y) (he : (mkPut m (nd2 k x y)).e = 0) :
    IdT (mkPut m (nd2 k x y)).rows (mkId m (nd2 k x y)) (treeOf (nd2 k 0 0) X Y) := by
  have h0 := (mkPut_to m _).e he
  obtain ⟨i, rfl, hi, rfl⟩ := hx
  obtain ⟨j, rfl, hj, rfl⟩ := hy
  unfold mkPut at he ⊢
  unfold mkId
  rw [if_neg (by simpa using h0)] at he ⊢
  rw [if_neg (by simpa using h0)]
  obtain ⟨q, h1, h2, h3⟩ := put_two ok hk hi hj he
  refine ⟨q, h1, h2, h3.trans ?_⟩
  rcases hk with rfl | rfl | rfl <;> simp [treeOf, nd2]
theorem mkPut_bot {m : MK} (_ok : Ok m.rows) (he : (mkPut m (nd2 2 0 0)).e = 0) : IdT (mkPut m (nd2 2 0 0)).rows (mkId m (nd2 2 0 0)) .bot := by
  have h0 := (mkPut_to m _).e he
  unfold mkPut at he ⊢
  unfold mkId
  rw [if_neg (by simpa using h0)] at he ⊢
  rw [if_neg (by simpa using h0)]
  obtain ⟨q, h1, h2, _⟩ := put_ok he
  exact ⟨q, h1, (List.getElem?_eq_some_iff.1 h2).1, tree_bot h2 rfl⟩
inductive All2 {α β : Type} (R : α → β → Prop) : List α → List β → Prop
  | nil : All2 R [] []
  | cons {a : α} {b : β} {l : List α} {m : List β} : R a b → All2 R l m → All2 R (a :: l) (b :: m)
theorem All2.imp {α β : Type} {R S : α → β → Prop} (h : ∀ a b, R a b → S a b) {l : List α} {m : List β} (g : All2 R l m) : All2 S l m := by
  induction g with
  | nil => exact .nil
  | cons a _ ih => exact .cons (h _ _ a) ih
abbrev AllT (rows : List ND) : List Int → List Fm → Prop := All2 (IdT rows)
theorem AllT.ext {rows rows' : List ND} {zs : List Int} {ts : List Fm} (h : AllT rows zs ts) (hp : rows <+: rows') : AllT rows' zs ts := by
  exact All2.imp (fun _ _ x => x.ext hp) h
theorem AllT.snoc {rows : List ND} {zs : List Int} {ts : List Fm} {z : Int} {t : Fm} (h : AllT rows zs ts) (g : IdT rows z t) : AllT rows (zs ++ [z]) (ts ++ [t]) := by
  induction h with
  | nil => exact .cons g .nil
  | cons a _ ih => exact .cons a ih
theorem impsV_to : ∀ (ps : List (Int × Int)) (m : MK) (l : List Int), MkTo m (impsV ps m l).1
  | [], m, _ => MkTo.refl m
  | _p :: t, m, _l => (mkPut_to m _).trans (impsV_to t _ _)
theorem allV_to : ∀ (ys : List Int) (m : MK) (x : Int), MkTo m (allV ys m x).1
  | [], m, _ => MkTo.refl m
  | _y :: t, m, _x => (mkPut_to m _).trans (allV_to t _ _)
theorem conjV_to : ∀ (ys : List Int) (m : MK), MkTo m (conjV ys m).1
  | [], m => (mkPut_to m _).trans (mkPut_to _ _)
  | _ :: t, m => allV_to t m _
theorem partsV_to (all : Int) : ∀ (ys : List Int) (m : MK) (l : List Int), MkTo m (partsV all ys m l).1
  | [], m, _ => MkTo.refl m
  | _y :: t, m, _l => (mkPut_to m _).trans (partsV_to all t _ _)
theorem impsV_sem : ∀ (ps : List (Int × Int)) (m : MK) (l : List Int) (ts : List Fm) (pts : List (Fm × Fm)), Ok m.rows → All2 (fun p t => IdT m.rows p.1 t.1 ∧ IdT m.rows p.2 t.2) ps pts → AllT m.rows l ts → (impsV ps m l).1.e = 0 →
    AllT (impsV ps m l).1.rows (impsV ps m l).2 (ts ++ pts.map fun t => .imp t.1 t.2)
  | [], m, l, ts, pts, _, h, hl, _ => by cases h; simpa [impsV] using hl
  | p :: t, m, l, ts, pts, ok, h, hl, he => by
    cases h with
    | cons hp ht =>
      rename_i T Ts
      have h1 := (impsV_to t (mkPut m (nd2 5 p.1 p.2)) (l ++ [mkId m (nd2 5 p.1 p.2)])).e he
      have hto := mkPut_to m (nd2 5 p.1 p.2)
      have hi := mkPut_two ok (.inr (.inr rfl)) hp.1 hp.2 h1
      have := impsV_sem t (mkPut m (nd2 5 p.1 p.2)) (l ++ [mkId m (nd2 5 p.1 p.2)]) (ts ++ [.imp T.1 T.2]) Ts (hto.ok ok) (All2.imp (fun _ _ x => ⟨x.1.ext hto.pre, x.2.ext hto.pre⟩) ht) ((hl.ext hto.pre).snoc (by simpa [treeOf, nd2] using hi)) he
      simpa [impsV] using this
theorem allV_sem : ∀ (ys : List Int) (m : MK) (x : Int) (X : Fm) (ts : List Fm), Ok m.rows → IdT m.rows x X → AllT m.rows ys ts → (allV ys m x).1.e = 0 → IdT (allV ys m x).1.rows (allV ys m x).2 (ts.foldl .and X)
  | [], m, x, X, ts, _, hx, h, _ => by cases h; simpa [allV] using hx
  | y :: t, m, x, X, ts, ok, hx, h, he => by
    cases h with
    | cons hy ht =>
      rename_i T Ts
      have h1 := (allV_to t (mkPut m (nd2 3 x y)) (mkId m (nd2 3 x y))).e he
      have hto := mkPut_to m (nd2 3 x y)
      have hi := mkPut_two ok (.inl rfl) hx hy h1
      have := allV_sem t (mkPut m (nd2 3 x y)) (mkId m (nd2 3 x y)) (.and X T) Ts (hto.ok ok) (by simpa [treeOf, nd2] using hi) (AllT.ext ht hto.pre) he
      simpa [allV] using this
def conjF : List Fm → Fm
  | [] => .imp .bot .bot
  | x :: t => t.foldl .and x
theorem conjV_sem (ys : List Int) (m : MK) (ts : List Fm) (ok : Ok m.rows) (h : AllT m.rows ys ts) (he : (conjV ys m).1.e = 0) : IdT (conjV ys m).1.rows (conjV ys m).2 (conjF ts) := by
  cases h with
  | nil =>
    simp only [conjV, topV] at he ⊢
    have h1 := (mkPut_to (mkPut m (nd2 2 0 0)) _).e he
    have hb := mkPut_bot ok h1
    have := mkPut_two ((mkPut_to m _).ok ok) (k := 5) (.inr (.inr rfl)) hb hb he
    simpa [treeOf, nd2, conjF] using this
  | cons hy ht => exact allV_sem _ m _ _ _ ok hy ht he
theorem partsV_sem (all : Int) (A : Fm) : ∀ (ys : List Int) (m : MK) (l : List Int) (ts gs : List Fm), Ok m.rows → IdT m.rows all A → AllT m.rows ys gs → AllT m.rows l ts → (partsV all ys m l).1.e = 0 →
    AllT (partsV all ys m l).1.rows (partsV all ys m l).2 (ts ++ gs.map (.imp A))
  | [], m, l, ts, gs, _, _, h, hl, _ => by cases h; simpa [partsV] using hl
  | y :: t, m, l, ts, gs, ok, ha, h, hl, he => by
    cases h with
    | cons hy ht =>
      rename_i T Ts
      have h1 := (partsV_to all t (mkPut m (nd2 5 all y)) (l ++ [mkId m (nd2 5 all y)])).e he
      have hto := mkPut_to m (nd2 5 all y)
      have hi := mkPut_two ok (.inr (.inr rfl)) ha hy h1
      have := partsV_sem all A t (mkPut m (nd2 5 all y)) (l ++ [mkId m (nd2 5 all y)]) (ts ++ [.imp A T]) Ts (hto.ok ok) (ha.ext hto.pre) (AllT.ext ht hto.pre) ((hl.ext hto.pre).snoc (by simpa [treeOf, nd2] using hi)) he
      simpa [partsV] using this
/-- What Visser puts, if it does not fail. -/
structure VisOk (rows : List ND) (r : VR) (ab : List (Fm × Fm)) (C D : Fm) : Prop where
  ok : Ok r.rows
  pre : rows <+: r.rows
  prem : IdT r.rows r.prem (.imp (conjF (ab.map fun p => .imp p.1 p.2)) (.or C D))
  parts : AllT r.rows r.parts ((ab.map (·.1) ++ [C, D]).map (.imp (conjF (ab.map fun p => .imp p.1 p.2))))
theorem allT_of {rows : List ND} : ∀ {zs : List Int}, (∀ z ∈ zs, hasB rows.length z = true) → AllT rows zs (zs.map fun z => tree rows z.toNat)
  | [], _ => .nil
  | z :: t, h => .cons (IdT.of_has (h z (by simp))) (allT_of fun x hx => h x (by simp [hx]))
theorem look_all {rows : List ND} {zs : List Int} (h : lookE rows zs = 0) : ∀ z ∈ zs, hasB rows.length z = true := by
  unfold lookE at h
  split at h
  · rename_i h1; exact List.all_eq_true.1 h1
  · cases h
theorem visser_ok {rows : List ND} (ok : Ok rows) {a b : List Int} {c d : Int} (he : (visserP rows a b c d).err = 0) :
    VisOk rows (visserP rows a b c d) ((a.zip b).map fun p => (tree rows p.1.toNat, tree rows p.2.toNat)) (tree rows c.toNat) (tree rows d.toNat) ∧ a.length = b.length ∧ a.length ≤ 8 ∧ lookE rows (a ++ b ++ [c, d]) = 0 := by
  unfold visserP at he ⊢
  by_cases h1 : lookE rows (a ++ b ++ [c, d]) = 0
  case neg => rw [if_pos h1] at he; cases he
  rw [if_neg (by simpa using h1)] at he ⊢
  by_cases h2 : a.length ≠ b.length ∨ 8 < a.length
  case pos => rw [if_pos h2] at he; cases he
  rw [if_neg h2] at he ⊢
  by_cases h3 : (ruleV rows (a.zip b) (a ++ [c, d]) c d).1.e = 0
  case neg => rw [if_pos h3] at he; exact absurd he h3
  rw [if_neg (by simpa using h3)]
  have hall := look_all h1
  have hlen : a.length = b.length := by omega
  refine ⟨?_, hlen, by omega, h1⟩
  have hz : ∀ z ∈ a ++ [c, d], hasB rows.length z = true := fun z hz => hall z (by simp at hz ⊢; rcases hz with h | h | h <;> simp [h])
  have hp : All2 (fun (p : Int × Int) (t : Fm × Fm) => IdT rows p.1 t.1 ∧ IdT rows p.2 t.2) (a.zip b) ((a.zip b).map fun p => (tree rows p.1.toNat, tree rows p.2.toNat)) := by
    have hm : ∀ p ∈ a.zip b, hasB rows.length p.1 = true ∧ hasB rows.length p.2 = true := fun p hp => by
      have := List.of_mem_zip hp
      exact ⟨hall _ (by simp [this.1]), hall _ (by simp [this.2])⟩
    revert hm
    generalize a.zip b = ps
    intro hm
    induction ps with
    | nil => exact .nil
    | cons p t ih => exact .cons ⟨IdT.of_has (hm p (by simp)).1, IdT.of_has (hm p (by simp)).2⟩ (ih fun q hq => hm q (by simp [hq]))
  unfold ruleV at h3 ⊢
  simp only at h3 ⊢
  generalize hi : impsV (a.zip b) ⟨rows, 0⟩ [] = i at *
  generalize hc : conjV i.2 i.1 = x at *
  generalize hm1 : mkPut x.1 (nd2 4 c d) = m1 at *
  generalize ho : mkId x.1 (nd2 4 c d) = o at *
  generalize hm2 : mkPut m1 (nd2 5 x.2 o) = m2 at *
  generalize hpr : mkId m1 (nd2 5 x.2 o) = p at *
  have t5 : MkTo m2 (partsV x.2 (a ++ [c, d]) m2 []).1 := partsV_to _ _ _ _
  have t4 : MkTo m1 m2 := by rw [← hm2]; exact mkPut_to _ _
  have t3 : MkTo x.1 m1 := by rw [← hm1]; exact mkPut_to _ _
  have t2 : MkTo i.1 x.1 := by rw [← hc]; exact conjV_to _ _
  have t1 : MkTo ⟨rows, 0⟩ i.1 := by rw [← hi]; exact impsV_to _ _ _
  have e2 := t5.e h3; have e1 := t4.e e2; have ex := t3.e e1; have ei := t2.e ex
  have o1 := t1.ok ok; have o2 := t2.ok o1; have o3 := t3.ok o2; have o4 := t4.ok o3
  have s1 : AllT i.1.rows i.2 (((a.zip b).map fun p => (tree rows p.1.toNat, tree rows p.2.toNat)).map fun t => .imp t.1 t.2) := by
    have := impsV_sem (a.zip b) ⟨rows, 0⟩ [] [] _ ok hp .nil (by rw [hi]; exact ei)
    rw [hi] at this; simpa using this
  have s2 := conjV_sem i.2 i.1 _ o1 s1 (by rw [hc]; exact ex)
  rw [hc] at s2
  have p03 := (t1.pre.trans t2.pre)
  have hcd : ∀ z, z = c ∨ z = d → IdT x.1.rows z (tree rows z.toNat) := fun z hz' => (IdT.of_has (hz z (by simp; rcases hz' with h | h <;> simp [h]))).ext p03
  have s3 := mkPut_two o2 (k := 4) (.inr (.inl rfl)) (hcd c (.inl rfl)) (hcd d (.inr rfl)) (by rw [hm1]; exact e1)
  rw [hm1, ho] at s3
  have s4 := mkPut_two o3 (k := 5) (.inr (.inr rfl)) (s2.ext t3.pre) s3 (by rw [hm2]; exact e2)
  rw [hm2, hpr] at s4
  have s5 := partsV_sem x.2 _ (a ++ [c, d]) m2 [] [] _ o4 ((s2.ext t3.pre).ext t4.pre) ((allT_of hz).ext (p03.trans (t3.pre.trans t4.pre))) .nil h3
  refine ⟨t5.ok o4, p03.trans (t3.pre.trans (t4.pre.trans t5.pre)), by simpa [treeOf, nd2] using s4.ext t5.pre, ?_⟩
  have hzip : (a.zip b).map (fun p => tree rows p.1.toNat) = a.map fun z => tree rows z.toNat := by
    have : (a.zip b).map Prod.fst = a := List.map_fst_zip (by omega)
    calc (a.zip b).map (fun p => tree rows p.1.toNat) = ((a.zip b).map Prod.fst).map (fun z => tree rows z.toNat) := by rw [List.map_map]; rfl
      _ = _ := by rw [this]
  simp only [List.nil_append, List.map_append, List.map_map, List.map_cons, List.map_nil, Function.comp_def] at s5 ⊢
  have h4 : (a.zip b).map (fun p => Fm.imp (conjF ((a.zip b).map fun p => Fm.imp (tree rows p.1.toNat) (tree rows p.2.toNat))) (tree rows p.1.toNat)) = a.map fun z => Fm.imp (conjF ((a.zip b).map fun p => Fm.imp (tree rows p.1.toNat) (tree rows p.2.toNat))) (tree rows z.toNat) := by
    have := congrArg (List.map (Fm.imp (conjF ((a.zip b).map fun p => Fm.imp (tree rows p.1.toNat) (tree rows p.2.toNat))))) hzip
    simpa [List.map_map, Function.comp_def] using this
  rw [h4]
  exact s5
end Go.Dk
end

section
namespace Go.Dk
open Go.RowKit Go.Maps Go.MapKept
open Go.Proofs hiding intOf
/-- Blocks. -/
abbrev FP := Nat → Prop
def FP.or (F G : FP) : FP := fun b => F b ∨ G b
def FP.in_ (F : FP) (w : World) : Prop := ∀ b, F b → b < w.heap.size
def FP.apart (F G : FP) : Prop := ∀ b, F b → ¬ G b
def FP.none : FP := fun _ => False
theorem FP.in_.below {F : FP} {w w' : World} (h : F.in_ w) (hb : Below w.heap.size w w') : F.in_ w' := fun b hf => Nat.lt_of_lt_of_le (h b hf) hb.size
/-- From w to w' only blocks of F were written; F' are the blocks of the same object behind it: old ones of F, and new ones. -/
structure KeptF (F : FP) (w : World) (F' : FP) (w' : World) : Prop where
  os : w'.os = w.os
  tape : w'.tape = w.tape
  output : w'.output = w.output
  size : w.heap.size ≤ w'.heap.size
  sub : ∀ b, b < w.heap.size → F' b → F b
  lt : F'.in_ w'
  block : ∀ b, b < w.heap.size → ¬ F b → w'.heap[b]? = w.heap[b]?
theorem KeptF.refl {F : FP} {w : World} (h : F.in_ w) : KeptF F w F w := ⟨rfl, rfl, rfl, Nat.le_refl _, fun _ _ h => h, h, fun _ _ _ => rfl⟩
theorem KeptF.trans {F F1 F2 : FP} {w w1 w2 : World} (h : KeptF F w F1 w1) (g : KeptF F1 w1 F2 w2) : KeptF F w F2 w2 :=
  ⟨g.os.trans h.os, g.tape.trans h.tape, g.output.trans h.output, Nat.le_trans h.size g.size,
   fun b hb hf => h.sub b hb (g.sub b (Nat.lt_of_lt_of_le hb h.size) hf), g.lt,
   fun b hb hn => (g.block b (Nat.lt_of_lt_of_le hb h.size) (fun hf => hn (h.sub b hb hf))).trans (h.block b hb hn)⟩
theorem KeptF.of_below {F : FP} {w w' : World} (hF : F.in_ w) (h : Below w.heap.size w w') : KeptF F w F w' :=
  ⟨h.os, h.tape, h.output, h.size, fun _ _ h => h, hF.below h, fun b hb _ => h.block b hb⟩
/-- Nothing of the object stood there: what was there stays. -/
theorem KeptF.below {F F' : FP} {w w' : World} (h : KeptF F w F' w') {B : Nat} (hB : B ≤ w.heap.size) (hn : ∀ b, b < B → ¬ F b) : Below B w w' :=
  ⟨h.os, h.tape, h.output, h.size, fun b hb => h.block b (Nat.lt_of_lt_of_le hb hB) (hn b hb)⟩
/-- Beside another object's blocks. -/
theorem KeptF.beside {F F' G : FP} {w w' : World} (h : KeptF F w F' w') (hG : G.in_ w) : KeptF (F.or G) w (F'.or G) w' :=
  ⟨h.os, h.tape, h.output, h.size, fun b hb hf => hf.imp (h.sub b hb) id, fun b hf => hf.elim (h.lt b) (fun hg => Nat.lt_of_lt_of_le (hG b hg) h.size), fun b hb hn => h.block b hb (fun hf => hn (.inl hf))⟩
theorem KeptF.apart {F F' G : FP} {w w' : World} (h : KeptF F w F' w') (hG : G.in_ w) (ha : F.apart G) : F'.apart G := fun b hf hg => ha b (h.sub b (hG b hg) hf) hg
theorem KeptF.cell {F F' : FP} {w w' : World} (h : KeptF F w F' w') {a : Addr} {v : Value} (c : w.cell? a = some v) (hn : ¬ F a.block) : w'.cell? a = some v := by
  have hb := h.block a.block (World.block_lt_of_cell? _ _ c) hn
  unfold World.cell? at *
  simp only [hb]
  exact c
theorem KeptF.rd {F F' : FP} {w w' : World} (h : KeptF F w F' w') {v : Value} {n size : Nat} {xs : List Value} (hr : Rd w v n size xs) (hn : ∀ a m c, v = .slice (some a) m c → ¬ F a.block) : Rd w' v n size xs := by
  obtain ⟨⟨a, c, e, h1, h2⟩, hl⟩ := hr
  exact ⟨⟨a, c, e, h1, fun ad ha => ⟨(h2 ad ha).1, fun j u hu => h.cell ((h2 ad ha).2 j u hu) (hn ad _ _ (by rw [e, ha]))⟩⟩, hl⟩
theorem KeptF.box {F F' : FP} {w w' : World} (h : KeptF F w F' w') {b : Nat} {o : Obj} (c : w.heap[b]? = some o) (hn : ¬ F b) : w'.heap[b]? = some o := (h.block b (lt_of_block c) hn).trans c
/-- A living table, its rows, its blocks. -/
def TabF (F : FP) (w : World) (t : Value) (rows : List ND) : Prop := F.in_ w ∧ ∃ k ow, Tab k ow w t rows ∧ ∀ b, b < w.heap.size → ow b = k → F b
theorem TabF.in_ {F : FP} {w : World} {t : Value} {rows : List ND} (h : TabF F w t rows) : F.in_ w := h.1
theorem TabF.ok {F : FP} {w : World} {t : Value} {rows : List ND} (h : TabF F w t rows) : Ok rows := by
  obtain ⟨_, k, ow, h, _⟩ := h
  exact h.ok
theorem Tab.recLt {k k2 : Nat} {ow ow2 : Own} {w : World} {t : Value} {rows : List ND} (h : Tab k ow w t rows) (hc : ∀ b, b < w.heap.size → ow b = k → ow2 b = k2) : Tab k2 ow2 w t rows := by
  obtain ⟨pb, mb, v, rfl, h⟩ := h
  exact ⟨pb, mb, v, rfl, h.hp, h.hr, h.hm, h.ok, hc _ (lt_of_block h.hp) h.cp, hc _ h.hm.lt h.cm, fun g hg => hc _ (h.hr.lt g hg).2 (h.cr g hg)⟩
open Classical in
/-- Colours of one's own choice. -/
noncomputable def colF (F : FP) (k : Nat) : Own := fun b => if F b then k else k + 1
theorem colF_yes {F : FP} {k b : Nat} (h : F b) : colF F k b = k := by unfold colF; rw [if_pos h]
theorem colF_iff {F : FP} {k b : Nat} : colF F k b = k ↔ F b := by
  unfold colF
  split
  · simp [*]
  · simp [*]
theorem colF_no {F : FP} {k b : Nat} (h : ¬ F b) : colF F k b = k + 1 := by unfold colF; rw [if_neg h]
theorem TabF.col {F : FP} {w : World} {t : Value} {rows : List ND} (h : TabF F w t rows) (k : Nat) : Tab k (colF F k) w t rows := by
  obtain ⟨_, k0, ow, h, hc⟩ := h
  exact h.recLt (fun b hb e => colF_yes (hc b hb e))
theorem TabF.of_tab {k : Nat} {ow : Own} {w : World} {t : Value} {rows : List ND} (h : Tab k ow w t rows) : TabF (fun b => b < w.heap.size ∧ ow b = k) w t rows :=
  ⟨fun _ hb => hb.1, k, ow, h, fun _ hb e => ⟨hb, e⟩⟩
theorem TabF.below {F : FP} {w w' : World} {t : Value} {rows : List ND} (h : TabF F w t rows) (hb : Below w.heap.size w w') : TabF F w' t rows :=
  ⟨h.1.below hb, 0, _, (h.col 0).below hb, fun _ _ e => colF_iff.1 e⟩
theorem TabF.kept {F G G' : FP} {w w' : World} {t : Value} {rows : List ND} (h : TabF F w t rows) (hk : KeptF G w G' w') (ha : F.apart G) : TabF F w' t rows := by
  refine ⟨fun b hf => Nat.lt_of_lt_of_le (h.1 b hf) hk.size, 0, _, (h.col 0).kept (c := 1) (ow' := colF F 0) ⟨hk.os, hk.tape, hk.output, hk.size, fun _ _ => rfl, fun b hb hn => hk.block b hb fun hg => hn (colF_no fun hf => ha b hf hg)⟩ (by decide), fun _ _ e => colF_iff.1 e⟩
/-- A contract in the words of colours, in these words. -/
theorem TabF.lift {P : Program} {fid : FuncId} {args : Array Value} {F : FP} {w : World} {t : Value} {rows : List ND} (h : TabF F w t rows) {E : Ending → Prop} {rows' : List ND}
    (hc : ∀ k ow, Tab k ow w t rows → Calls P fid args w fun e w' => E e ∧ ∃ ow', Kept k ow w ow' w' ∧ Tab k ow' w' t rows') :
    Calls P fid args w fun e w' => E e ∧ ∃ F', KeptF F w F' w' ∧ TabF F' w' t rows' := by
  refine (hc 0 _ (h.col 0)).mono ?_
  rintro e w' ⟨he, ow', hk, ht⟩
  exact ⟨he, fun b => b < w'.heap.size ∧ ow' b = 0, ⟨hk.os, hk.tape, hk.output, hk.size, fun b hb hf => colF_iff.1 ((hk.own b hb).symm.trans hf.2), fun b hf => hf.1, fun b hb hn => hk.block b hb fun e => hn (colF_iff.1 e)⟩, fun b hf => hf.1, 0, ow', ht, fun b hb e => ⟨hb, e⟩⟩
def PutF (F : FP) (w : World) (t : Value) (p : Put) (e : Ending) (w' : World) : Prop :=
  e = .returned (.tuple #[.int .i64 p.id, .int .i64 p.err]) ∧ ∃ F', KeptF F w F' w' ∧ TabF F' w' t p.rows
theorem imp_F {F : FP} {w : World} {t : Value} {rows : List ND} (h : TabF F w t rows) (a b : Int) : Calls Tryd.prog 36 #[t, .int .i64 a, .int .i64 b] w (PutF F w t (put rows ⟨5, ⟨#[]⟩, a, b⟩)) :=
  h.lift fun k ow ht => imp_any k ow w t rows ht a b
theorem cut_F {F : FP} {w : World} {t : Value} {rows : List ND} (h : TabF F w t rows) (n : Int) : Calls Tryd.prog 18 #[t, .int .i64 n] w fun e w' => e = .returned (.int .i64 (cutP rows n).1) ∧ ∃ F', KeptF F w F' w' ∧ TabF F' w' t (cutP rows n).2 :=
  h.lift fun k ow ht => cut_any k ow w t rows ht n
theorem put_F {F : FP} {w : World} {t : Value} {rows : List ND} (h : TabF F w t rows) (kd l r : Int) (nm : ByteArray) (hs : nm.size ≤ maxLen) : Calls Tryd.prog 21 #[t, .agg #[.int .i64 kd, .string nm, .int .i64 l, .int .i64 r]] w (PutF F w t (put rows ⟨kd, nm, l, r⟩)) :=
  h.lift fun k ow ht => put_any k ow w t rows ht _ _ _ _ hs
/-- A copy: the table stays, the new one is of new blocks. -/
theorem copy_F {F : FP} {w : World} {t : Value} {rows : List ND} (h : TabF F w t rows) : Calls Tryd.prog 25 #[t] w fun e w' => ∃ c F', e = .returned c ∧ TabF F' w' c rows ∧ (∀ b, F' b → w.heap.size ≤ b) ∧ Below w.heap.size w w' := by
  refine (copy_any 0 _ w t rows (h.col 0) 2).mono ?_
  rintro e w' ⟨c, ow', rfl, ht, hk, hb⟩
  refine ⟨c, fun b => b < w'.heap.size ∧ ow' b = 2, rfl, ⟨fun b hf => hf.1, 2, ow', ht, fun b hb e => ⟨hb, e⟩⟩, fun b hf => ?_, hb⟩
  apply Classical.byContradiction
  intro hn
  have h1 := hk.own b (by omega)
  rw [hf.2] at h1
  unfold colF at h1
  split at h1 <;> omega
end Go.Dk
end
