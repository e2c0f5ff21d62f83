/- Parts of the proof: Qr, Qs, Qt, Qu, Qv. -/
import Derived.Test.YthhokkfcdbcllaaDoorN01
import Derived.Test.YthhokkfcdbcllaaDoorN02
import Derived.Test.YthhokkfcdbcllaaDoorN03
import Derived.Test.YthhokkfcdbcllaaDoorN04
import Derived.Test.YthhokkfcdbcllaaDoorN05
import Derived.Test.YthhokkfcdbcllaaDoorN06
import Derived.Test.YthhokkfcdbcllaaDoorN07
import Derived.Test.YthhokkfcdbcllaaDoorN08
import Derived.Test.YthhokkfcdbcllaaDoorN09
import Derived.Test.YthhokkfcdbcllaaDoorN10
import Derived.Test.YthhokkfcdbcllaaDoorN11
import Derived.Test.YthhokkfcdbcllaaDoorN12
import Derived.Test.YthhokkfcdbcllaaDoorN13
section
namespace Go.Dk
open Go.RowKit Go.Maps Go.MapKept
open Go.Proofs hiding intOf
theorem putK_rows {rows0 rows : List ND} {a b : Int} {k : List ND → Nat → Prem} (hk : ∀ r f, (k r f).err ≠ 0 → (k r f).rows = rows0) (h : (putK rows0 rows a b k).err ≠ 0) : (putK rows0 rows a b k).rows = rows0 := by
  unfold putK at h ⊢
  simp only at h ⊢
  split
  · rfl
  · rename_i hz
    rw [if_neg hz] at h
    exact hk _ _ h
theorem premisesP_rows {rows : List ND} {s : SQ} {k : Int} {main : Nat} (h : (premisesP rows s k main).err ≠ 0) : (premisesP rows s k main).rows = rows := by
  unfold premisesP at h ⊢
  simp only at h ⊢
  by_cases h3 : k = 3
  · simp only [h3, if_true]
  by_cases h4 : k = 4
  · simp only [h4]; rfl
  by_cases h5 : k = 5
  · simp only [h5]; rfl
  by_cases h6 : k = 6
  · subst h6
    simp only [show ¬ (6 : Int) = 3 by decide, show ¬ (6 : Int) = 4 by decide, show ¬ (6 : Int) = 5 by decide, if_false, if_true] at h ⊢
    exact putK_rows (fun r f he => putK_rows (fun r f he => by simp at he) he) h
  by_cases h7 : k = 7
  · subst h7
    simp only [show ¬ (7 : Int) = 3 by decide, show ¬ (7 : Int) = 4 by decide, show ¬ (7 : Int) = 5 by decide, show ¬ (7 : Int) = 6 by decide, if_false, if_true] at h ⊢
    exact putK_rows (fun r f he => putK_rows (fun r f he => by simp at he) he) h
  simp only [h3, h4, h5, h6, h7, if_false] at h ⊢
  by_cases h8 : k = 8
  · simp only [h8, if_true]
  by_cases h9 : k = 9
  · simp only [h9]; rfl
  by_cases h10 : k = 10
  · simp only [h10]; rfl
  by_cases h11 : k = 11
  · simp only [h11]; rfl
  by_cases h12 : k = 12
  · simp only [h12]; rfl
  by_cases h13 : k = 13
  · subst h13
    simp only [show ¬ (13 : Int) = 8 by decide, show ¬ (13 : Int) = 9 by decide, show ¬ (13 : Int) = 10 by decide, show ¬ (13 : Int) = 11 by decide, show ¬ (13 : Int) = 12 by decide, if_false, if_true] at h ⊢
    exact putK_rows (fun r f he => by simp at he) h
  simp only [h8, h9, h10, h11, h12, h13, if_false]
/-- A step's cells. -/
def stpC (m : Nat) (g : Int) (b : Bool) (k n : Int) (kv : Value) : List Value := seqL m g ++ [.bool b, .int .i64 k, .int .i64 n, kv]
theorem stpC_len (m : Nat) (g : Int) (b : Bool) (k n : Int) (kv : Value) : (stpC m g b k n kv).length = 21 := by simp [stpC, seqL_len]
theorem stepL_stp (x : SS) (kv : Value) : stepL x kv = stpC x.seq.left x.seq.goal x.proved x.rule x.main kv := rfl
theorem stpC_at (m : Nat) (g : Int) (b : Bool) (k n : Int) (kv : Value) : (stpC m g b k n kv)[17]? = some (.bool b) ∧ (stpC m g b k n kv)[20]? = some kv := by
  unfold stpC
  constructor <;> (rw [List.getElem?_append_right (by rw [seqL_len]; omega), seqL_len]; rfl)
theorem stpC_set20 (m : Nat) (g : Int) (b : Bool) (k n : Int) (kv v : Value) : (stpC m g b k n kv).set 20 v = stpC m g b k n v := by
  unfold stpC
  rw [List.set_append_right _ _ (by rw [seqL_len]; omega), seqL_len]
  rfl
theorem stpC_set17 (m : Nat) (g : Int) (b c : Bool) (k n : Int) (kv : Value) : (stpC m g b k n kv).set 17 (.bool c) = stpC m g c k n kv := by
  unfold stpC
  rw [List.set_append_right _ _ (by rw [seqL_len]; omega), seqL_len]
  rfl
def zeroStep : List Value := stpC 0 0 false 0 0 (.slice none 0 0)
theorem stpC_one {m : Nat} {g : Int} {b : Bool} {k n : Int} {kv : Value} (h : kv.oneCell' = true) : ∀ y ∈ stpC m g b k n kv, y.oneCell' = true := by
  intro y hy
  unfold stpC at hy
  rcases List.mem_append.1 hy with hy | hy
  · exact (Array.all_eq_true_iff_forall_mem.1 (seq_one m g)) y (by simpa using hy)
  · simp at hy
    rcases hy with rfl | rfl | rfl | rfl <;> first | rfl | exact h
/-- The building of a step, under a name that the walk does not open. -/
def stepBuild (parts : Array (Nat × Value)) : _root_.Go.Sem Value := Instr.build 102 parts
theorem build_fold (parts : Array (Nat × Value)) : Instr.build 102 parts = stepBuild parts := rfl
theorem fold_pre (m : Nat) (g : Int) (z : Array Value) (hz : 17 ≤ z.size) : List.foldl (fun (cs : Array Value) (x : Value × Nat) => cs.setIfInBounds x.2 x.1) z (seqL m g).zipIdx = (seqL m g ++ z.toList.drop 17).toArray := by
  have h := fold_at 0 (seqL m g) 0 z (by rw [seqL_len]; omega)
  simp only [Nat.zero_add, List.take_zero, List.nil_append, seqL_len] at h
  exact h
set_option maxRecDepth 100000 in
theorem build_4 (W : World) (m : Nat) (g : Int) (b : Bool) (k n : Int) : (stepBuild #[(0, .agg (seqL m g).toArray), (1, .bool b), (2, .int .i64 k), (3, .int .i64 n)]).run Tryd.prog W = .ok (.agg (stpC m g b k n (.slice none 0 0)).toArray) W := by
  have hsl := seqL_len m g
  have hfs : ∀ (l : List (Value × Nat)) (cs : Array Value), (List.foldl (fun (cs : Array Value) (x : Value × Nat) => cs.setIfInBounds x.2 x.1) cs l).size = cs.size := fold_size
  unfold stepBuild
  simp [go_sem, Instr.build, Instr.fill, hsl, hfs]
  rw [fold_pre m g _ (by decide)]
  simp [stpC, seqL_len]
set_option maxRecDepth 100000 in
theorem build_kid (W : World) (m : Nat) (g : Int) (k n : Int) (ad : Option Addr) (x y : Nat) : (stepBuild #[(0, .agg (seqL m g).toArray), (2, .int .i64 k), (3, .int .i64 n), (4, .slice ad x y)]).run Tryd.prog W = .ok (.agg (stpC m g false k n (.slice ad x y)).toArray) W := by
  have hsl := seqL_len m g
  have hfs : ∀ (l : List (Value × Nat)) (cs : Array Value), (List.foldl (fun (cs : Array Value) (x : Value × Nat) => cs.setIfInBounds x.2 x.1) cs l).size = cs.size := fold_size
  unfold stepBuild
  simp [go_sem, Instr.build, Instr.fill, hsl, hfs]
  rw [fold_pre m g _ (by decide)]
  simp [stpC, seqL_len]
set_option maxRecDepth 100000 in
theorem build_stuck (W : World) (m : Nat) (g : Int)  : (stepBuild #[(0, .agg (seqL m g).toArray), (2, .int .i64 14)]).run Tryd.prog W = .ok (.agg (stpC m g false 14 0 (.slice none 0 0)).toArray) W := by
  have hsl := seqL_len m g
  have hfs : ∀ (l : List (Value × Nat)) (cs : Array Value), (List.foldl (fun (cs : Array Value) (x : Value × Nat) => cs.setIfInBounds x.2 x.1) cs l).size = cs.size := fold_size
  unfold stepBuild
  simp [go_sem, Instr.build, Instr.fill, hsl, hfs]
  rw [fold_pre m g _ (by decide)]
  simp [stpC, seqL_len]
theorem rStep : RowTy Tryd.prog 102 21 := ⟨uStep, iStep⟩
section
variable {ops : Array Oper} {rest : List Oper} {o : Oper} {a : Act} {Q : Exit → Act → World → Prop} {W : World} {b m : Nat} {g : Int}
/-- A sequent is loaded out of the middle of a row of them. -/
theorem wp_loadSeqAt (x : Operand) {off : Nat} (hop : o.op = .load 81 x) (hg : o.guard = none) (hx : a.eval x = .pointer (some ⟨b, off, none⟩)) (h : W.rangeAt b off (seqL m g)) (hk : wpList Tryd.prog ops Q rest (a.put o.dst (.agg (seqL m g).toArray)) W) : wpList Tryd.prog ops Q (o :: rest) a W := by
  obtain ⟨d, hu, hd⟩ := uSeq
  exact wpList_load_mid hg _ x hop b off hx (seqL m g) d h hu hd (by rw [seqL_len]; exact iSeq) hk
theorem wp_loadStep (x : Operand) (hop : o.op = .load 102 x) (hg : o.guard = none) (hx : a.eval x = .pointer (some ⟨b, 0, none⟩)) {cs : List Value} {T : TypeId} (h : BoxB W b cs T) (hl : cs.length = 21) (hk : wpList Tryd.prog ops Q rest (a.put o.dst (.agg cs.toArray)) W) : wpList Tryd.prog ops Q (o :: rest) a W := by
  obtain ⟨d, hu, hd⟩ := uStep
  exact wpList_load_mid hg _ x hop b 0 hx cs d (h.range (by simp)) hu hd (by rw [hl]; exact iStep) hk
/-- A step is built. -/
theorem wp_build {parts : Array (Nat × Operand)} {v : Value} (hop : o.op = .build 102 parts) (hg : o.guard = none) (hr : (stepBuild (parts.map fun (i, x) => (i, a.eval x))).run Tryd.prog W = .ok v W) (hk : wpList Tryd.prog ops Q rest (a.put o.dst v) W) : wpList Tryd.prog ops Q (o :: rest) a W := by
  refine wpList_plain hg fun K hK => ?_
  unfold Oper.wp execOp
  have hr2 : (Instr.build 102 (parts.map fun (i, x) => (i, a.eval x))).run Tryd.prog W = .ok v W := hr
  simp only [hop]
  simp only [Sem.run_bind, hr2, Result.andThen_ok, Sem.run_pure]
  exact hK _ _ hk
end
end Go.Dk
end

section
namespace Go.Dk
open Go.RowKit Go.Maps Go.MapKept
open Go.Proofs hiding intOf
attribute [local go_sem ↓] load_fold step_fold
attribute [local go_sem] load_seqV load_stepV
set_option maxRecDepth 100000 in
set_option maxHeartbeats 2000000 in
/-- A rule is applied, the premises one behind the other. -/
theorem decide_perr (fuel : Nat) (pf : Nat) (t : Value) (_HDEC : DecOK fuel pf t) (F G K : FP) (w : World) (st : SR) (vis : Int) (s : SQ) (h : Fin F G K w pf t st vis) (he : FEnv F G K w) (hi : InvS st) (wf : Wf st.rows s) (hf : findL st.steps s = none) (hl : 0 < st.left) (hfu : st.left ≤ fuel + 1) (hroom : st.steps.length + st.left ≤ 4096) (hv0 : 0 ≤ vis) (hv : vis + st.left ≤ 4096) (h14 : (applyP st.rows s).1 ≠ 14) (hpe : (premisesP st.rows s (applyP st.rows s).1 (applyP st.rows s).2).err ≠ 0) :
    Calls Tryd.prog 39 #[.pointer (some ⟨pf, 0, none⟩), .agg (seqL s.left s.goal).toArray] w (DecPost F G K w pf t st vis (⟨⟨st.rows, st.steps, st.left - 1⟩, (premisesP st.rows s (applyP st.rows s).1 (applyP st.rows s).2).err, 0⟩)) := by
  have hs := wf_lt hi.ok wf
  have hgl := wf.goal
  have hle := hi.ok.le
  obtain ⟨sv, mb, kvs, hm⟩ := h
  have HB0 := Lib.hid (below_alloc w (.cells (seqL s.left s.goal).toArray 81))
  have HX := Lib.hid (BoxB.new w (seqL s.left s.goal) 81)
  have h0 := hm.below HB0.out
  obtain ⟨kl, hkl⟩ := seqKey s.left s.goal (WalkArith.wf_i64 (by omega))
  rw [← SQ.val_yes (s := s) hs] at hkl
  have hz : ∀ W, (zeroValue 3).run Tryd.prog W = .ok (.int .i64 0) W := fun _ => by kernel_rfl
  have hlk : ∀ nq, (Instr.lookup 96 (.map (some mb)) (.agg (seqL s.left s.goal).toArray) true).run Tryd.prog ((w.alloc (.cells (seqL s.left s.goal).toArray 81)).drewN nq) = .ok (.tuple #[.int .i64 0, .bool false]) ((w.alloc (.cells (seqL s.left s.goal).toArray 81)).drewN nq) := fun nq => by
    rw [← SQ.val_yes (s := s) hs]
    exact TM.look_none (h0.map.below (below_drewN _ nq)) lawSeq SQ.val_inj Tryd.underlying96 (hz _) hkl true hf
  have c2 : (w.alloc (.cells (seqL s.left s.goal).toArray 81)).cell? ⟨pf, 2, none⟩ = some (.map (some mb)) := cell_of h0.blk rfl
  have hld : ∀ nq, Loadable 81 ((w.alloc (.cells (seqL s.left s.goal).toArray 81)).drewN nq) (.pointer (some ⟨w.heap.size, 0, none⟩)) := fun nq => (loadV_is (HX.out.below (below_drewN _ nq)).loads).1
  have hlv : ∀ nq, loadV 81 ((w.alloc (.cells (seqL s.left s.goal).toArray 81)).drewN nq) (.pointer (some ⟨w.heap.size, 0, none⟩)) = _ := fun nq => (loadV_is (HX.out.below (below_drewN _ nq)).loads).2
  have hlz : (st.left == 0) = false := by simpa using (show st.left ≠ 0 by omega)
  have HM := Lib.hid hm; have HE := Lib.hid he; have HI := Lib.hid hi; have HW := Lib.hid wf; have H14 := Lib.hid h14
  obtain ⟨r, hr⟩ : ∃ r : SA, (⟨⟨st.rows, st.steps, st.left - 1⟩, (premisesP st.rows s (applyP st.rows s).1 (applyP st.rows s).2).err, 0⟩ : SA) = r := ⟨_, rfl⟩
  have HR : Hid (r.st.left ≤ st.left - 1) := by rw [← hr]; exact Nat.le_refl _
  rw [hr]
  have HRR := Lib.hid hr
  clear hr
  have HN : Hid (0 < st.left ∧ st.left ≤ fuel + 1 ∧ st.steps.length + st.left ≤ 4096 ∧ 0 ≤ vis ∧ vis + st.left ≤ 4096) := ⟨hl, hfu, hroom, hv0, hv⟩
  have H0 := Lib.hid h0
  obtain ⟨⟨k, main⟩, hkm⟩ : ∃ km, applyP st.rows s = km := ⟨_, rfl⟩
  have hk14 : (k == 14) = false := by rw [hkm] at h14; simpa using h14
  have HFIT : Hid (FitK st.rows s k main) := by have := apply_fits hi.ok wf h14; rw [hkm] at this; exact this
  have HKM := Lib.hid hkm
  obtain ⟨p, hp⟩ : ∃ p, premisesP st.rows s k main = p := ⟨_, rfl⟩
  have HPP := Lib.hid hp
  have hpe2 : p.err ≠ 0 ∧ p.rows = st.rows := by
    rw [hkm] at hpe
    simp only at hpe
    rw [hp] at hpe
    exact ⟨hpe, by rw [← hp]; exact premisesP_rows (by rw [hp]; exact hpe)⟩
  have hrr : r = ⟨⟨st.rows, st.steps, st.left - 1⟩, p.err, 0⟩ := by rw [← HRR.out, hkm, ← hp]
  have HR2 := Lib.hid hrr
  have HPE := Lib.hid hpe2
  have hpz : (p.err != 0) = true := by simpa using hpe2.1
  clear hp hpe hpe2 hrr
  clear hkm
  clear hm h0 hkl hf hz he hi wf h14
  go_enter Tryd.func39, Tryd.ntmps39
  go_wp2
  go_quiet (fail)
  have HM1 := Lib.hid (H0.out.below (below_drewN (w.alloc (.cells (seqL s.left s.goal).toArray 81)) nq))
  have HX1 := Lib.hid (HX.out.below (below_drewN (w.alloc (.cells (seqL s.left s.goal).toArray 81)) nq))
  have HB1 := Lib.hid (below_trans HB0.out (below_drewN (w.alloc (.cells (seqL s.left s.goal).toArray 81)) nq))
  clear c2 hld hlv hlk
  generalize ((w.alloc (.cells (seqL s.left s.goal).toArray 81)).drewN nq) = W1 at *
  have c3 : W1.cell? ⟨pf, 3, none⟩ = some (.int .i64 (st.left : Int)) := cell_of HM1.out.blk rfl
  have c4 : W1.cell? ⟨pf, 4, none⟩ = some (.int .i64 vis) := cell_of HM1.out.blk rfl
  have f3 := frozen_of (i := 3) HM1.out.blk
  have f4 := frozen_of (i := 4) HM1.out.blk
  go_wp2
  have hfe := fin_enter HM1.out hl
  have HK2 := Lib.hid hfe.1
  have HM2 := Lib.hid hfe.2
  have HX2 := Lib.hid (HX1.out.kept2 hfe.1 (fun hg => by have := HM.out.gin _ hg; omega))
  clear hfe c3 c4 f3 f4
  generalize ((W1.setCell ⟨pf, 3, none⟩ (.int .i64 ((st.left : Int) - 1))).setCell ⟨pf, 4, none⟩ (.int .i64 (vis + 1))) = W2 at *
  have HKW : Hid (KeptF (H3 F G K) w (H3 F G K) W2) := (KeptF.of_below HM.out.in_ HB1.out).trans (HK2.out.fin3 HM1.out.tab.in_ HM1.out.kin)
  have HE2 := Lib.hid (HE.out.kept HKW.out)
  have hcl : ∀ W', Aft W2 W' → W'.cell? ⟨pf, 0, none⟩ = some t := fun W' hb => cell_past hb (cell_of HM2.out.blk rfl)
  have hld : ∀ W', Aft W2 W' → Loadable 81 W' (.pointer (some ⟨w.heap.size, 0, none⟩)) := fun W' hb => (loadV_is (HX2.out.below hb).loads).1
  have hlv : ∀ W', Aft W2 W' → loadV 81 W' (.pointer (some ⟨w.heap.size, 0, none⟩)) = _ := fun W' hb => (loadV_is (HX2.out.below hb).loads).2
  have HK : Hid (∀ W', Below W2.heap.size W2 W' → Aft W2 W') := fun W' hb => hb
  have HD := Lib.hid (below_drewN W2 1)
  have HA : Hid (∀ W, Below W2.heap.size W2 W → Calls Tryd.prog 44 #[t, .agg (seqL s.left s.goal).toArray] W fun e w' => e = .returned (.tuple #[.int .i64 k, .int .i64 (main : Int), .int .i64 0]) ∧ Below W.heap.size W w') := fun W hb => by
    have := rApply_ok 0 _ W t st.rows ((HM2.out.tab.col 0).below hb) (HE2.out.g.below hb) s HW.out
    rw [HKM.out] at this
    exact this
  go_region_held3 (fun W' => Aft W2 W')
    ((refine HK.out _ ?_; first | exact HB3.out | exact HD.out))
    ((go_at_call 44; refine (HA.out _ HD.out).mono ?_; rintro e W3 ⟨rfl, hb3⟩; have HB3 := Lib.hid (below_trans HD.out hb3); clear hb3))
  have HX3 := Lib.hid (HX2.out.below HB3.out)
  have HM3 := Lib.hid (HM2.out.below HB3.out)
  have HE3 := Lib.hid (HE2.out.below HB3.out)
  have HKW3 := Lib.hid (HKW.out.trans (KeptF.of_below HM2.out.in_ HB3.out))
  have HNX : Hid (¬ F w.heap.size) := fun hf => by have := HM.out.tab.in_ _ hf; omega
  have HNP : Hid (¬ F pf) := fun hf => HM.out.ap _ hf HM.out.gp
  clear hcl hld hlv
  have hcl : ∀ W', AftK F W3 W' → W'.cell? ⟨pf, 0, none⟩ = some t := fun W' ⟨F', hk⟩ => hk.cell (cell_of HM3.out.blk rfl) HNP.out
  have hld : ∀ W', AftK F W3 W' → Loadable 81 W' (.pointer (some ⟨w.heap.size, 0, none⟩)) := fun W' ⟨F', hk⟩ => (loadV_is (HX3.out.keptF hk HNX.out).loads).1
  have hlv : ∀ W', AftK F W3 W' → loadV 81 W' (.pointer (some ⟨w.heap.size, 0, none⟩)) = _ := fun W' ⟨F', hk⟩ => (loadV_is (HX3.out.keptF hk HNX.out).loads).2
  have HK3 : Hid (∀ W', Below W3.heap.size W3 W' → AftK F W3 W') := fun W' hb => ⟨F, KeptF.of_below HM3.out.tab.in_ hb⟩
  have HD3 := Lib.hid (below_drewN W3 1)
  have HPR : Hid (∀ W, Below W3.heap.size W3 W → Calls Tryd.prog 46 #[t, .agg (seqL s.left s.goal).toArray, .int .i64 k, .int .i64 (main : Int)] W (PremF F W t p)) := fun W hb => HPP.out ▸ rPremises_any F W t st.rows (HM3.out.tab.below hb) (HE3.out.g.below hb) s HW.out k main HFIT.out
  go_wp2_with fail
  go_region_held3 (fun W' => AftK F W3 W')
    ((first | exact HKI.out | exact HK3.out _ HD3.out))
    ((go_at_call 46; refine (HPR.out _ HD3.out).mono ?_; rintro e W4 ⟨v, F4, rfl, hk4, ht4, hs4⟩; have HK4 := Lib.hid ((KeptF.of_below HM3.out.tab.in_ HD3.out).trans hk4); have HKI : Hid (AftK F W3 W4) := ⟨F4, HK4.out⟩; have HT4 := Lib.hid ht4; have HS4 := Lib.hid hs4; clear hk4 ht4 hs4))
  clear hcl hld hlv HA HPR
  have HM4 := Lib.hid (HM3.out.tabbed HK4.out HT4.out)
  have HKW4 := Lib.hid (HKW3.out.trans (HK4.out.tab3 HM3.out.gin HM3.out.kin))
  have HX4 := Lib.hid (HX3.out.keptF HK4.out HNX.out)
  go_wp2_with fail
  go_ret2
  rw [HR2.out]
  refine ⟨rfl, F4, G, K, HKW4.out, ?_⟩
  have h1 := HPE.out.2
  have h2 := HM4.out
  rw [show vis + ((st.left - (st.left - 1) : Nat) : Int) = vis + 1 by omega]
  rw [h1] at h2
  exact ⟨_, _, _, h2⟩
end Go.Dk
end

section
namespace Go.Dk
open Go.RowKit Go.Maps Go.MapKept
open Go.Proofs hiding intOf
theorem flatS_at : ∀ (l : List SQ) (j : Nat) (h : j < l.length), (((l.flatMap fun s => seqL s.left s.goal)).drop (j * 17)).take 17 = seqL l[j].left l[j].goal
  | a :: l, 0, _ => by
    rw [Nat.zero_mul, List.drop_zero, List.flatMap_cons]
    exact List.take_left' (seqL_len _ _)
  | a :: l, j + 1, h => by
    have := flatS_at l j (by simpa using h)
    rw [List.flatMap_cons, show (j + 1) * 17 = (seqL a.left a.goal).length + j * 17 by rw [seqL_len]; omega, ← List.drop_drop, List.drop_left]
    simpa using this
theorem BoxB.seqAt {W : World} {b : Nat} {l : List SQ} {T : TypeId} (h : BoxB W b (l.flatMap fun s => seqL s.left s.goal) T) {j : Nat} (hj : j < l.length) : W.rangeAt b (j * 17) (seqL l[j].left l[j].goal) :=
  h.range (by rw [seqL_len]; exact flatS_at l j hj)
def kidI (kids : List Nat) : List Value := ints (kids.map fun i : Nat => (i : Int))
theorem kidI_snoc (kids : List Nat) (i : Nat) : kidI (kids ++ [i]) = kidI kids ++ [.int .i64 (i : Int)] := by simp [kidI, ints]
/-- A slice of kids under way. -/
structure KidO (B : Nat) (H : FP) (W : World) (kv : Value) (kids : List Nat) : Prop where
  own : W.ownsRow B 3 1 kv kids.length (kidI kids)
  nk : ∀ g, kv.ownBlock = some g → ¬ H g
/-- The local boxes of decide's loop. -/
structure Loc (H : FP) (B x3 xb : Nat) (s : SQ) (k : Int) (main : Nat) (ad : Option Addr) (seqs : List SQ) (kids : List Nat) (kv : Value) (W : World) : Prop where
  b3 : BoxB W x3 (seqL s.left s.goal) 81
  bx : BoxB W xb (stpC s.left s.goal true k main kv) 102
  ko : KidO B H W kv kids
  bs : seqs = [] ∨ ∃ b, ad = some ⟨b, 0, none⟩ ∧ BoxB W b (seqs.flatMap fun s => seqL s.left s.goal) 81 ∧ ¬ H b
  n3 : ¬ H x3
  nx : ¬ H xb
  lo : B ≤ xb
theorem KidO.step {B : Nat} {H H' : FP} {W W' : World} {kv : Value} {kids : List Nat} (h : KidO B H W kv kids) (hk : KeptF H W H' W') : KidO B H' W' kv kids :=
  ⟨hk.own h.own h.nk, fun g hg hf => h.nk g hg (hk.sub g (h.own.lt g hg).2 hf)⟩
theorem Loc.step {H H' : FP} {B x3 xb : Nat} {s : SQ} {k : Int} {main : Nat} {ad : Option Addr} {seqs : List SQ} {kids : List Nat} {kv : Value} {W W' : World} (h : Loc H B x3 xb s k main ad seqs kids kv W) (hk : KeptF H W H' W') : Loc H' B x3 xb s k main ad seqs kids kv W' := by
  refine ⟨h.b3.keptF hk h.n3, h.bx.keptF hk h.nx, h.ko.step hk, ?_, fun hf => h.n3 (hk.sub _ h.b3.lt hf), fun hf => h.nx (hk.sub _ h.bx.lt hf), h.lo⟩
  rcases h.bs with hs | ⟨b, h1, h2, h3⟩
  · exact .inl hs
  · exact .inr ⟨b, h1, h2.keptF hk h3, fun hf => h3 (hk.sub _ h2.lt hf)⟩
theorem box_ne {W : World} {b c : Nat} {xs ys : List Value} {T U : TypeId} (h : BoxB W b xs T) (g : BoxB W c ys U) (hT : T ≠ U) : b ≠ c := fun e => by
  have h1 : W.heap[b]? = some (.cells xs.toArray T (0, 0)) := h
  have h2 : W.heap[c]? = some (.cells ys.toArray U (0, 0)) := g
  rw [e, h2] at h1
  simp at h1
  exact hT h1.2.symm
theorem keep_app2 {W w1 : World} {B o : Nat} {v v' : Value} {tmp : Obj} (hgrow : (W.alloc tmp).grownBy w1 v.ownBlock) {b : Nat} (hb : b < W.heap.size) (h1 : v.ownBlock ≠ some b) (h2 : b ≠ B) : (w1.setCell ⟨B, o, none⟩ v').heap[b]? = W.heap[b]? := by
  rw [Below.heap_setCell _ _ _ _ h2, hgrow.block b (by simp; omega) (fun e => h1 e.symm)]
  exact Below.heap_alloc _ _ _ hb
/-- One kid more. -/
theorem Loc.app {H : FP} {B x3 xb : Nat} {s : SQ} {k : Int} {main : Nat} {ad : Option Addr} {seqs : List SQ} {kids : List Nat} {kv : Value} {W w1 : World} (h : Loc H B x3 xb s k main ad seqs kids kv W) (hH : H.in_ W) {v' : Value} {i : Nat} {tmp : Obj}
    (hown : w1.ownsRow B 3 1 v' (kids.length + 1) (kidI kids ++ [.int .i64 (i : Int)])) (hg : (W.alloc tmp).grownBy w1 kv.ownBlock) (hat : v'.ownBlock = kv.ownBlock ∨ v'.ownBlock = some (W.alloc tmp).heap.size) :
    BoxB w1 xb (stpC s.left s.goal true k main kv) 102 ∧ Loc H B x3 xb s k main ad seqs (kids ++ [i]) v' (w1.setCell ⟨xb, 20, none⟩ v') ∧
      KeptF (fun b => b = xb ∨ kv.ownBlock = some b) W (fun b => b = xb ∨ kv.ownBlock = some b) (w1.setCell ⟨xb, 20, none⟩ v') ∧ Below B W (w1.setCell ⟨xb, 20, none⟩ v') := by
  have nkx : kv.ownBlock ≠ some xb := box_lt_ne h.bx (by decide) h.ko.own
  have nk3 : kv.ownBlock ≠ some x3 := box_lt_ne h.b3 (by decide) h.ko.own
  have n3x : x3 ≠ xb := box_ne h.b3 h.bx (by decide)
  have hb1 : BoxB w1 xb (stpC s.left s.goal true k main kv) 102 := (hg.block xb (by simp; have := h.bx.lt; omega) (fun e => nkx e.symm)).trans ((Below.heap_alloc _ _ _ h.bx.lt).trans h.bx)
  have hsz : W.heap.size ≤ w1.heap.size := by have := hg.size; simp at this; omega
  have hB : B ≤ W.heap.size := Nat.le_trans h.lo (Nat.le_of_lt h.bx.lt)
  have hnv : v'.ownBlock ≠ some xb := box_lt_ne hb1 (by decide) hown
  refine ⟨hb1, ⟨?_, ?_, ⟨?_, fun g hg' hf => ?_⟩, ?_, h.n3, h.nx, h.lo⟩, ⟨?_, ?_, ?_, by simp; omega, fun _ _ h => h, fun b hb => ?_, fun b hb hn => ?_⟩, ?_⟩
  · exact (keep_app2 hg h.b3.lt nk3 n3x).trans h.b3
  · have := hb1.set 20 v'
    rw [stpC_set20] at this
    exact this
  · rw [List.length_append, kidI_snoc]
    exact own_same hown fun g hg' => Below.heap_setCell _ _ _ _ (fun e => hnv (by rw [hg', e]))
  · rcases hat with e | e
    · exact h.ko.nk g (e ▸ hg') hf
    · rw [e] at hg'
      cases hg'
      have := hH _ hf
      simp at this
      omega
  · rcases h.bs with hs | ⟨b, h1, h2, h3⟩
    · exact .inl hs
    · exact .inr ⟨b, h1, (keep_app2 hg h2.lt (box_lt_ne h2 (by decide) h.ko.own) (box_ne h2 h.bx (by decide))).trans h2, h3⟩
  · exact hg.os
  · exact hg.tape
  · exact hg.output
  · rcases hb with rfl | hb
    · have := hb1.lt; simpa using this
    · have := (h.ko.own.lt b hb).2; simp; omega
  · exact keep_app2 hg hb (fun e => hn (.inr e)) (fun e => hn (.inl e))
  · refine ⟨hg.os, hg.tape, hg.output, by simp; exact hsz, fun b hb => ?_⟩
    refine keep_app2 hg (by omega) (fun e => ?_) (fun e => by have := h.lo; omega)
    have := (h.ko.own.lt b e).1
    omega
theorem KeptF.grow {H H1 : FP} {w w1 : World} (h : KeptF H w H1 w1) {X : FP} (hx : X.in_ w1) (hn : ∀ b, X b → w.heap.size ≤ b) : KeptF H w (fun b => H1 b ∨ X b) w1 :=
  ⟨h.os, h.tape, h.output, h.size, fun b hb hf => hf.elim (h.sub b hb) (fun hf => by have := hn b hf; omega), fun b hf => hf.elim (h.lt b) (hx b), h.block⟩
/-- A step that comes up only writes what is new. -/
theorem KeptF.thenNew {H H1 : FP} {w w1 w2 : World} (h : KeptF H w H1 w1) (g : Below w.heap.size w1 w2) (hs : ∀ b, H1 b → b < w2.heap.size) : KeptF H w H1 w2 :=
  ⟨g.os.trans h.os, g.tape.trans h.tape, g.output.trans h.output, Nat.le_trans h.size g.size, h.sub, hs, fun b hb hn => (g.block b hb).trans (h.block b hb hn)⟩
/-- end, at the end of a decision. -/
theorem end_dec {F G K F1 G1 K1 : FP} {w w1 : World} {pf : Nat} {t : Value} {st st1 : SR} {vis vis1 : Int} (hk : KeptF (H3 F G K) w (H3 F1 G1 K1) w1) (hm : Fin F1 G1 K1 w1 pf t st1 vis1) (hv : vis1 = vis + ((st.left - st1.left : Nat) : Int)) (x : SS) (kv : Value) (hx : x.seq.left < 2 ^ 1024) (hg : x.seq.goal < 2 ^ 62) (hsl : st1.steps.length < 4096)
    (hko : Rd w1 kv x.kids.length 1 (kidI x.kids)) (hkb : ∀ a m c, kv = .slice (some a) m c → a.block < w1.heap.size ∧ w.heap.size ≤ a.block ∧ ¬ H3 F1 G1 K1 a.block) :
    Calls Tryd.prog 47 #[.pointer (some ⟨pf, 0, none⟩), .agg (stepL x kv).toArray] w1 (DecPost F G K w pf t st vis (endS st1 x)) := by
  obtain ⟨sv, mb, kvs, hm⟩ := hm
  have hX1 : FP.in_ (fun b => ∃ a m c, kv = .slice (some a) m c ∧ a.block = b) w1 := by
    rintro b ⟨a, m, c, e, rfl⟩
    exact (hkb a m c e).1
  have hmm := hm.more hX1 (by rintro b ⟨a, m, c, e, rfl⟩ hf; exact (hkb a m c e).2.2 (.inl hf)) (by rintro b ⟨a, m, c, e, rfl⟩ hf; exact (hkb a m c e).2.2 (.inr (.inl hf)))
  refine (end_any F1 G1 _ w1 pf t st1 vis1 ⟨sv, mb, kvs, hmm⟩ x kv hx hg ⟨hko, fun a m c e => .inr ⟨a, m, c, e, rfl⟩⟩ hsl).mono ?_
  rintro e w' ⟨rfl, G', hk2, hf⟩
  refine ⟨rfl, F1, G', _, ?_, hv ▸ hf⟩
  have h1 : KeptF (H3 F G K) w (H3 F1 G1 (fun b => K1 b ∨ ∃ a m c, kv = .slice (some a) m c ∧ a.block = b)) w1 := by
    have := hk.grow hX1 (by rintro b ⟨a, m, c, e, rfl⟩; exact (hkb a m c e).2.1)
    exact ⟨this.os, this.tape, this.output, this.size, fun b hb hf => this.sub b hb (by
      rcases hf with h | h | h | h
      · exact .inl (.inl h)
      · exact .inl (.inr (.inl h))
      · exact .inl (.inr (.inr h))
      · exact .inr h), fun b hf => this.lt b (by
      rcases hf with h | h | h | h
      · exact .inl (.inl h)
      · exact .inl (.inr (.inl h))
      · exact .inl (.inr (.inr h))
      · exact .inr h), this.block⟩
  exact h1.trans (hk2.fin3 hmm.tab.in_ hmm.kin)
/-- Whether a step is proved. -/
theorem fin_proved {F G K : FP} {w : World} {pf : Nat} {t : Value} {st : SR} {vis : Int} {sv : Value} {mb : Nat} {kvs : List Value} (h : FinM F G K w pf t st vis sv mb kvs) {i : Nat} (hi : i < st.steps.length) :
    ∃ g c, sv = .slice (some ⟨g, 0, none⟩) st.steps.length c ∧ w.cell? ⟨g, i * 21 + 17, none⟩ = some (.bool (provedAt st i)) := by
  obtain ⟨g, c, rfl, _, hc⟩ := own_some h.row (by omega)
  refine ⟨g, c, rfl, hc _ _ ?_⟩
  have h1 : st.steps[i]? = some st.steps[i] := List.getElem?_eq_getElem hi
  have h2 : kvs[i]? = some (kvs[i]'(by rw [← h.len]; exact hi)) := List.getElem?_eq_getElem _
  rw [stepsL_at _ _ i 17 _ _ h.len h1 h2 (by omega), stepL_stp, (stpC_at _ _ _ _ _ _).1]
  unfold provedAt
  rw [h1]
  rfl
end Go.Dk
end

section
namespace Go.Dk
open Go.RowKit Go.Maps Go.MapKept
open Go.Proofs hiding intOf
theorem putK_len {rows0 rows : List ND} {a b : Int} {k : List ND → Nat → Prem} (hk : ∀ r f, (k r f).seqs.length ≤ 2) : (putK rows0 rows a b k).seqs.length ≤ 2 := by
  unfold putK
  simp only
  split
  · simp
  · exact hk _ _
theorem premisesP_len (rows : List ND) (s : SQ) (k : Int) (main : Nat) : (premisesP rows s k main).seqs.length ≤ 2 := by
  unfold premisesP
  simp only
  by_cases h3 : k = 3
  · subst h3
    simp only [if_true]
    simp
  by_cases h4 : k = 4
  · subst h4
    simp only [show ¬ (4 : Int) = 3 by decide, if_false, if_true]
    simp
  by_cases h5 : k = 5
  · subst h5
    simp only [show ¬ (5 : Int) = 3 by decide, show ¬ (5 : Int) = 4 by decide, if_false, if_true]
    simp
  by_cases h6 : k = 6
  · subst h6
    simp only [show ¬ (6 : Int) = 3 by decide, show ¬ (6 : Int) = 4 by decide, show ¬ (6 : Int) = 5 by decide, if_false, if_true]
    exact putK_len fun r f => putK_len fun r f => by simp
  by_cases h7 : k = 7
  · subst h7
    simp only [show ¬ (7 : Int) = 3 by decide, show ¬ (7 : Int) = 4 by decide, show ¬ (7 : Int) = 5 by decide, show ¬ (7 : Int) = 6 by decide, if_false, if_true]
    exact putK_len fun r f => putK_len fun r f => by simp
  by_cases h8 : k = 8
  · subst h8
    simp only [show ¬ (8 : Int) = 3 by decide, show ¬ (8 : Int) = 4 by decide, show ¬ (8 : Int) = 5 by decide, show ¬ (8 : Int) = 6 by decide, show ¬ (8 : Int) = 7 by decide, if_false, if_true]
    simp
  by_cases h9 : k = 9
  · subst h9
    simp only [show ¬ (9 : Int) = 3 by decide, show ¬ (9 : Int) = 4 by decide, show ¬ (9 : Int) = 5 by decide, show ¬ (9 : Int) = 6 by decide, show ¬ (9 : Int) = 7 by decide, show ¬ (9 : Int) = 8 by decide, if_false, if_true]
    simp
  by_cases h10 : k = 10
  · subst h10
    simp only [show ¬ (10 : Int) = 3 by decide, show ¬ (10 : Int) = 4 by decide, show ¬ (10 : Int) = 5 by decide, show ¬ (10 : Int) = 6 by decide, show ¬ (10 : Int) = 7 by decide, show ¬ (10 : Int) = 8 by decide, show ¬ (10 : Int) = 9 by decide, if_false, if_true]
    simp
  by_cases h11 : k = 11
  · subst h11
    simp only [show ¬ (11 : Int) = 3 by decide, show ¬ (11 : Int) = 4 by decide, show ¬ (11 : Int) = 5 by decide, show ¬ (11 : Int) = 6 by decide, show ¬ (11 : Int) = 7 by decide, show ¬ (11 : Int) = 8 by decide, show ¬ (11 : Int) = 9 by decide, show ¬ (11 : Int) = 10 by decide, if_false, if_true]
    simp
  by_cases h12 : k = 12
  · subst h12
    simp only [show ¬ (12 : Int) = 3 by decide, show ¬ (12 : Int) = 4 by decide, show ¬ (12 : Int) = 5 by decide, show ¬ (12 : Int) = 6 by decide, show ¬ (12 : Int) = 7 by decide, show ¬ (12 : Int) = 8 by decide, show ¬ (12 : Int) = 9 by decide, show ¬ (12 : Int) = 10 by decide, show ¬ (12 : Int) = 11 by decide, if_false, if_true]
    simp
  by_cases h13 : k = 13
  · subst h13
    simp only [show ¬ (13 : Int) = 3 by decide, show ¬ (13 : Int) = 4 by decide, show ¬ (13 : Int) = 5 by decide, show ¬ (13 : Int) = 6 by decide, show ¬ (13 : Int) = 7 by decide, show ¬ (13 : Int) = 8 by decide, show ¬ (13 : Int) = 9 by decide, show ¬ (13 : Int) = 10 by decide, show ¬ (13 : Int) = 11 by decide, show ¬ (13 : Int) = 12 by decide, if_false, if_true]
    exact putK_len fun r f => by simp
  simp only [h3, h4, h5, h6, h7, h8, h9, h10, h11, h12, h13, if_false]
  simp
theorem seqs_form {B : Nat} {F : FP} {w : World} {v : Value} {l : List SQ} (h : SeqsV B F w v l) : ∃ ad, v = .slice ad l.length l.length ∧ (l = [] ∨ ∃ b, ad = some ⟨b, 0, none⟩ ∧ BoxB w b (l.flatMap fun s => seqL s.left s.goal) 81 ∧ B ≤ b ∧ ¬ F b) := by
  rcases h with ⟨rfl, rfl⟩ | ⟨b, h1, h2, h3, h4, h5⟩
  · exact ⟨none, rfl, .inl rfl⟩
  · exact ⟨_, h2, .inr ⟨b, rfl, h5, h3, h4⟩⟩
structure KidI (fuel : Nat) (pf : Nat) (t : Value) (F G K : FP) (w : World) (s : SQ) (k : Int) (main : Nat) (ad : Option Addr) (seqs : List SQ) (xb : Nat) (r : SA) (C : Int) (L : Nat) (j : Nat) (W : World) (F' G' K' : FP) (st : SR) (vis : Int) (kids : List Nat) (kv : Value) : Prop where
  kept : KeptF (H3 F G K) w (H3 F' G' K') W
  fin : Fin F' G' K' W pf t st vis
  eq : kidsF (decideL fuel) s k main (seqs.drop j) st kids = r
  loc : Loc (H3 F' G' K') w.heap.size w.heap.size xb s k main ad seqs kids kv W
  inv : InvS st
  wf : ∀ q ∈ seqs.drop j, Wf st.rows q
  left : st.left ≤ fuel
  lf : st.left ≤ L
  room : st.steps.length + st.left ≤ 4095
  v0 : 0 ≤ vis
  vc : vis + st.left = C
  kl : kids.length = j
attribute [local go_sem ↓] load_fold step_fold
attribute [local go_sem] load_seqV load_stepV
set_option maxRecDepth 100000 in
set_option maxHeartbeats 2000000 in
/-- A rule is applied, the premises one behind the other. -/
theorem decide_kids (fuel : Nat) (pf : Nat) (t : Value) (HDEC : DecOK fuel pf t) (F G K : FP) (w : World) (st : SR) (vis : Int) (s : SQ) (h : Fin F G K w pf t st vis) (he : FEnv F G K w) (hi : InvS st) (wf : Wf st.rows s) (hf : findL st.steps s = none) (hl : 0 < st.left) (hfu : st.left ≤ fuel + 1) (hroom : st.steps.length + st.left ≤ 4096) (hv0 : 0 ≤ vis) (hv : vis + st.left ≤ 4096) (h14 : (applyP st.rows s).1 ≠ 14) (hpe : (premisesP st.rows s (applyP st.rows s).1 (applyP st.rows s).2).err = 0) :
    Calls Tryd.prog 39 #[.pointer (some ⟨pf, 0, none⟩), .agg (seqL s.left s.goal).toArray] w (DecPost F G K w pf t st vis (kidsF (decideL fuel) s (applyP st.rows s).1 (applyP st.rows s).2 (premisesP st.rows s (applyP st.rows s).1 (applyP st.rows s).2).seqs ⟨(premisesP st.rows s (applyP st.rows s).1 (applyP st.rows s).2).rows, st.steps, st.left - 1⟩ [])) := by
  have hs := wf_lt hi.ok wf
  have hgl := wf.goal
  have hle := hi.ok.le
  obtain ⟨sv, mb, kvs, hm⟩ := h
  have HB0 := Lib.hid (below_alloc w (.cells (seqL s.left s.goal).toArray 81))
  have HX := Lib.hid (BoxB.new w (seqL s.left s.goal) 81)
  have h0 := hm.below HB0.out
  obtain ⟨kl, hkl⟩ := seqKey s.left s.goal (WalkArith.wf_i64 (by omega))
  rw [← SQ.val_yes (s := s) hs] at hkl
  have hz : ∀ W, (zeroValue 3).run Tryd.prog W = .ok (.int .i64 0) W := fun _ => by kernel_rfl
  have hlk : ∀ nq, (Instr.lookup 96 (.map (some mb)) (.agg (seqL s.left s.goal).toArray) true).run Tryd.prog ((w.alloc (.cells (seqL s.left s.goal).toArray 81)).drewN nq) = .ok (.tuple #[.int .i64 0, .bool false]) ((w.alloc (.cells (seqL s.left s.goal).toArray 81)).drewN nq) := fun nq => by
    rw [← SQ.val_yes (s := s) hs]
    exact TM.look_none (h0.map.below (below_drewN _ nq)) lawSeq SQ.val_inj Tryd.underlying96 (hz _) hkl true hf
  have c2 : (w.alloc (.cells (seqL s.left s.goal).toArray 81)).cell? ⟨pf, 2, none⟩ = some (.map (some mb)) := cell_of h0.blk rfl
  have hld : ∀ nq, Loadable 81 ((w.alloc (.cells (seqL s.left s.goal).toArray 81)).drewN nq) (.pointer (some ⟨w.heap.size, 0, none⟩)) := fun nq => (loadV_is (HX.out.below (below_drewN _ nq)).loads).1
  have hlv : ∀ nq, loadV 81 ((w.alloc (.cells (seqL s.left s.goal).toArray 81)).drewN nq) (.pointer (some ⟨w.heap.size, 0, none⟩)) = _ := fun nq => (loadV_is (HX.out.below (below_drewN _ nq)).loads).2
  have hlz : (st.left == 0) = false := by simpa using (show st.left ≠ 0 by omega)
  have HM := Lib.hid hm; have HE := Lib.hid he; have HI := Lib.hid hi; have HW := Lib.hid wf; have H14 := Lib.hid h14
  obtain ⟨r, hr⟩ : ∃ r : SA, (kidsF (decideL fuel) s (applyP st.rows s).1 (applyP st.rows s).2 (premisesP st.rows s (applyP st.rows s).1 (applyP st.rows s).2).seqs ⟨(premisesP st.rows s (applyP st.rows s).1 (applyP st.rows s).2).rows, st.steps, st.left - 1⟩ [] : SA) = r := ⟨_, rfl⟩
  have HR : Hid (r.st.left ≤ st.left - 1) := by rw [← hr]; exact (kidsF_room (decideL_room fuel) s _ _ _ _ _).left
  rw [hr]
  have HRR := Lib.hid hr
  clear hr
  have HN : Hid (0 < st.left ∧ st.left ≤ fuel + 1 ∧ st.steps.length + st.left ≤ 4096 ∧ 0 ≤ vis ∧ vis + st.left ≤ 4096) := ⟨hl, hfu, hroom, hv0, hv⟩
  have H0 := Lib.hid h0
  obtain ⟨⟨k, main⟩, hkm⟩ : ∃ km, applyP st.rows s = km := ⟨_, rfl⟩
  have hk14 : (k == 14) = false := by rw [hkm] at h14; simpa using h14
  have HFIT : Hid (FitK st.rows s k main) := by have := apply_fits hi.ok wf h14; rw [hkm] at this; exact this
  have HKM := Lib.hid hkm
  obtain ⟨p, hp⟩ : ∃ p, premisesP st.rows s k main = p := ⟨_, rfl⟩
  have HPP := Lib.hid hp
  have hpo : PremOk st.rows s p ∧ p.err = 0 ∧ p.seqs.length ≤ 2 := by
    have h1 := apply_ok hi.ok wf h14 hpe
    rw [hkm] at h1 hpe
    simp only at h1 hpe
    rw [hp] at h1 hpe
    exact ⟨h1, hpe, by rw [← hp]; exact premisesP_len _ _ _ _⟩
  have HPO := Lib.hid hpo
  have hpz : (p.err != 0) = false := by simpa using hpo.2.1
  have hrr : kidsF (decideL fuel) s k main p.seqs ⟨p.rows, st.steps, st.left - 1⟩ [] = r := by rw [← HRR.out, hkm, ← hp]
  have HR2 := Lib.hid hrr
  have hsl2 : p.seqs.length ≤ 2 := hpo.2.2
  clear hp hpe hpo hrr
  clear hkm
  clear hm h0 hkl hf hz he hi wf h14
  go_enter Tryd.func39, Tryd.ntmps39
  go_wp2
  go_quiet (fail)
  have HM1 := Lib.hid (H0.out.below (below_drewN (w.alloc (.cells (seqL s.left s.goal).toArray 81)) nq))
  have HX1 := Lib.hid (HX.out.below (below_drewN (w.alloc (.cells (seqL s.left s.goal).toArray 81)) nq))
  have HB1 := Lib.hid (below_trans HB0.out (below_drewN (w.alloc (.cells (seqL s.left s.goal).toArray 81)) nq))
  clear c2 hld hlv hlk
  generalize ((w.alloc (.cells (seqL s.left s.goal).toArray 81)).drewN nq) = W1 at *
  have c3 : W1.cell? ⟨pf, 3, none⟩ = some (.int .i64 (st.left : Int)) := cell_of HM1.out.blk rfl
  have c4 : W1.cell? ⟨pf, 4, none⟩ = some (.int .i64 vis) := cell_of HM1.out.blk rfl
  have f3 := frozen_of (i := 3) HM1.out.blk
  have f4 := frozen_of (i := 4) HM1.out.blk
  go_wp2
  have hfe := fin_enter HM1.out hl
  have HK2 := Lib.hid hfe.1
  have HM2 := Lib.hid hfe.2
  have HX2 := Lib.hid (HX1.out.kept2 hfe.1 (fun hg => by have := HM.out.gin _ hg; omega))
  clear hfe c3 c4 f3 f4
  generalize ((W1.setCell ⟨pf, 3, none⟩ (.int .i64 ((st.left : Int) - 1))).setCell ⟨pf, 4, none⟩ (.int .i64 (vis + 1))) = W2 at *
  have HKW : Hid (KeptF (H3 F G K) w (H3 F G K) W2) := (KeptF.of_below HM.out.in_ HB1.out).trans (HK2.out.fin3 HM1.out.tab.in_ HM1.out.kin)
  have HE2 := Lib.hid (HE.out.kept HKW.out)
  have hcl : ∀ W', Aft W2 W' → W'.cell? ⟨pf, 0, none⟩ = some t := fun W' hb => cell_past hb (cell_of HM2.out.blk rfl)
  have hld : ∀ W', Aft W2 W' → Loadable 81 W' (.pointer (some ⟨w.heap.size, 0, none⟩)) := fun W' hb => (loadV_is (HX2.out.below hb).loads).1
  have hlv : ∀ W', Aft W2 W' → loadV 81 W' (.pointer (some ⟨w.heap.size, 0, none⟩)) = _ := fun W' hb => (loadV_is (HX2.out.below hb).loads).2
  have HK : Hid (∀ W', Below W2.heap.size W2 W' → Aft W2 W') := fun W' hb => hb
  have HD := Lib.hid (below_drewN W2 1)
  have HA : Hid (∀ W, Below W2.heap.size W2 W → Calls Tryd.prog 44 #[t, .agg (seqL s.left s.goal).toArray] W fun e w' => e = .returned (.tuple #[.int .i64 k, .int .i64 (main : Int), .int .i64 0]) ∧ Below W.heap.size W w') := fun W hb => by
    have := rApply_ok 0 _ W t st.rows ((HM2.out.tab.col 0).below hb) (HE2.out.g.below hb) s HW.out
    rw [HKM.out] at this
    exact this
  go_region_held3 (fun W' => Aft W2 W')
    ((refine HK.out _ ?_; first | exact HB3.out | exact HD.out))
    ((go_at_call 44; refine (HA.out _ HD.out).mono ?_; rintro e W3 ⟨rfl, hb3⟩; have HB3 := Lib.hid (below_trans HD.out hb3); clear hb3))
  have HX3 := Lib.hid (HX2.out.below HB3.out)
  have HM3 := Lib.hid (HM2.out.below HB3.out)
  have HE3 := Lib.hid (HE2.out.below HB3.out)
  have HKW3 := Lib.hid (HKW.out.trans (KeptF.of_below HM2.out.in_ HB3.out))
  have HNX : Hid (¬ F w.heap.size) := fun hf => by have := HM.out.tab.in_ _ hf; omega
  have HNP : Hid (¬ F pf) := fun hf => HM.out.ap _ hf HM.out.gp
  clear hcl hld hlv
  have hcl : ∀ W', AftK F W3 W' → W'.cell? ⟨pf, 0, none⟩ = some t := fun W' ⟨F', hk⟩ => hk.cell (cell_of HM3.out.blk rfl) HNP.out
  have hld : ∀ W', AftK F W3 W' → Loadable 81 W' (.pointer (some ⟨w.heap.size, 0, none⟩)) := fun W' ⟨F', hk⟩ => (loadV_is (HX3.out.keptF hk HNX.out).loads).1
  have hlv : ∀ W', AftK F W3 W' → loadV 81 W' (.pointer (some ⟨w.heap.size, 0, none⟩)) = _ := fun W' ⟨F', hk⟩ => (loadV_is (HX3.out.keptF hk HNX.out).loads).2
  have HK3 : Hid (∀ W', Below W3.heap.size W3 W' → AftK F W3 W') := fun W' hb => ⟨F, KeptF.of_below HM3.out.tab.in_ hb⟩
  have HD3 := Lib.hid (below_drewN W3 1)
  have HPR : Hid (∀ W, Below W3.heap.size W3 W → Calls Tryd.prog 46 #[t, .agg (seqL s.left s.goal).toArray, .int .i64 k, .int .i64 (main : Int)] W (PremF F W t p)) := fun W hb => HPP.out ▸ rPremises_any F W t st.rows (HM3.out.tab.below hb) (HE3.out.g.below hb) s HW.out k main HFIT.out
  go_wp2_with fail
  go_region_held3 (fun W' => AftK F W3 W')
    ((first | exact HKI.out | exact HK3.out _ HD3.out))
    ((go_at_call 46; refine (HPR.out _ HD3.out).mono ?_; rintro e W4 ⟨v, F4, rfl, hk4, ht4, hs4⟩; have HK4 := Lib.hid ((KeptF.of_below HM3.out.tab.in_ HD3.out).trans hk4); have HKI : Hid (AftK F W3 W4) := ⟨F4, HK4.out⟩; have HT4 := Lib.hid ht4; have HS4 := Lib.hid hs4; clear hk4 ht4 hs4))
  clear hcl hld hlv HA HPR
  have HM4 := Lib.hid (HM3.out.tabbed HK4.out HT4.out)
  have HKW4 := Lib.hid (HKW3.out.trans (HK4.out.tab3 HM3.out.gin HM3.out.kin))
  have HX4 := Lib.hid (HX3.out.keptF HK4.out HNX.out)
  obtain ⟨ad, rfl, hsb⟩ := seqs_form (HS4.out HPO.out.2.1)
  have HSB := Lib.hid hsb
  have HNG : Hid (∀ b, w.heap.size ≤ b → ¬ G b ∧ ¬ K b) := fun b hb => ⟨fun hg => by have := HM.out.gin _ hg; omega, fun hg => by have := HM.out.kin _ hg; omega⟩
  have HNF4 : Hid (¬ F4 w.heap.size) := fun hf => HNX.out (HK4.out.sub _ HX3.out.lt hf)
  clear hsb
  go_wp2_with (first
    | (refine wp_loadSeq (.tmp 3) rfl rfl rfl HX4.out ?_)
    | (refine wp_build rfl rfl (v := .agg (stpC s.left s.goal true k main (.slice none 0 0)).toArray) (by simp [go_sem]; exact build_4 _ _ _ _ _ _) ?_)
    | (refine wp_storeRow rStep (.tmp 12) (.tmp 84) rfl rfl rfl (ys := stpC s.left s.goal true k main (.slice none 0 0)) rfl (BoxB.new W4 zeroStep 102) rfl (stpC_len _ _ _ _ _ _) (all_oneCell_toArray (stpC_one rfl)) ?_; intro W5 hb5 ho5; have HB45 := Lib.hid ((below_alloc W4 (.cells zeroStep.toArray 102)).trans (ho5.below (Nat.le_refl _))); have HBX5 := Lib.hid hb5; clear hb5 ho5))
  have hwx : w.heap.size < W4.heap.size := HX4.out.lt
  have HI0 : Hid (KidI fuel pf t F G K w s k main ad p.seqs W4.heap.size r (vis + st.left) st.left 0 W5 F4 G K ⟨p.rows, st.steps, st.left - 1⟩ (vis + 1) [] (.slice none 0 0)) := by
    refine ⟨HKW4.out.trans (KeptF.of_below HM4.out.in_ HB45.out), ⟨_, _, _, HM4.out.below HB45.out⟩, by simpa using HR2.out, ⟨HX4.out.below HB45.out, HBX5.out, ⟨World.ownsRow_nil _ _ _ _, fun g hg => by simp [Value.ownBlock] at hg⟩, ?_, ?_, ?_, Nat.le_of_lt hwx⟩, (HI.out.ext HPO.out.1.ok HPO.out.1.pre _), ?_, by show st.left - 1 ≤ fuel; omega, by show st.left - 1 ≤ st.left; omega, by show st.steps.length + (st.left - 1) ≤ 4095; omega, by omega, by show vis + 1 + ((st.left - 1 : Nat) : Int) = _; omega, rfl⟩
    · rcases HSB.out with h | ⟨b, h1, h2, h3, h4⟩
      · exact .inl h
      · refine .inr ⟨b, h1, h2.below HB45.out, fun hf => ?_⟩
        have hwb : w.heap.size ≤ b := by have := HKW3.out.size; simp at h3; omega
        rcases hf with hf | hf | hf
        · exact h4 hf
        · exact (HNG.out b hwb).1 hf
        · exact (HNG.out b hwb).2 hf
    · rintro (hf | hf | hf)
      · exact HNF4.out hf
      · exact (HNG.out _ (Nat.le_refl _)).1 hf
      · exact (HNG.out _ (Nat.le_refl _)).2 hf
    · rintro (hf | hf | hf)
      · have := HM4.out.tab.in_ _ hf; omega
      · exact (HNG.out _ (Nat.le_of_lt hwx)).1 hf
      · exact (HNG.out _ (Nat.le_of_lt hwx)).2 hf
    · intro q hq
      exact HPO.out.1.inv.wf q (by simpa using hq)
  clear HB0 HX H0 HM HI HW H14 HN HRR HR HM1 HX1 HB1 HK2 HM2 HX2 HKW HE2 HK HD HB3 HX3 HM3 HE3 HKW3 HNX HNP HK3 HD3 HK4 HKI HT4 HS4 HM4 HKW4 HX4 HSB HNG HNF4 HB45 HBX5 HKM HFIT HPP HR2 HPO hwx hlz hk14 hpz
  go_loopw [87] (fun i W => ∃ j F' G' K' st' vis' kids kv, j ≤ p.seqs.length ∧ i = .int .i64 (j : Int) ∧ KidI fuel pf t F G K w s k main ad p.seqs W4.heap.size r (vis + st.left) st.left j W F' G' K' st' vis' kids kv) (fun i _ => p.seqs.length - (intOf i).toNat)
  case atStart => exact ⟨0, F4, G, K, _, _, _, _, by omega, rfl, HI0.out⟩
  case round =>
    obtain ⟨j, F', G', K', st', vis', kids, kv, hj, rfl, hI⟩ := hrel
    have HJ := Lib.hid hI
    clear hI
    by_cases hlt : j < p.seqs.length
    · obtain ⟨q, hq⟩ : ∃ q, q = p.seqs[j] := ⟨_, rfl⟩
      have hdrop : p.seqs.drop j = q :: p.seqs.drop (j + 1) := by rw [hq]; exact List.drop_eq_getElem_cons hlt
      have hwq : Wf st'.rows q := HJ.out.wf q (by rw [hdrop]; simp)
      obtain ⟨b, hadb, hbx, hnb⟩ : ∃ b, ad = some ⟨b, 0, none⟩ ∧ BoxB wr b (p.seqs.flatMap fun s => seqL s.left s.goal) 81 ∧ ¬ H3 F' G' K' b := by
        rcases HJ.out.loc.bs with h | h
        · rw [h] at hlt; simp at hlt
        · exact h
      have hra : wr.rangeAt b (j * 17) (seqL q.left q.goal) := by rw [hq]; exact hbx.seqAt hlt
      have HRA := Lib.hid hra
      have hbl : b < wr.heap.size := hbx.lt
      have HIH0 := HDEC F' G' K'
      have HEV : Hid (FEnv F' G' K' wr) := HE.out.kept HJ.out.kept
      obtain ⟨r1, hr1⟩ : ∃ r1, decideL fuel st' q = r1 := ⟨_, rfl⟩
      have HIH : Hid (∀ W, Below wr.heap.size wr W → Calls Tryd.prog 39 #[.pointer (some ⟨pf, 0, none⟩), .agg (seqL q.left q.goal).toArray] W (DecPost F' G' K' W pf t st' vis' r1)) := fun W hb => by
        have h0 := HJ.out
        exact hr1 ▸ HDEC F' G' K' W st' vis' q (h0.fin.below hb) (HEV.out.below hb) h0.inv hwq h0.left (by have := h0.room; omega) h0.v0 (by have := h0.vc; omega)
      have HEQ : Hid (kidsF (decideL fuel) s k main (q :: p.seqs.drop (j + 1)) st' kids = r) := by
        have := HJ.out.eq
        rw [hdrop] at this
        exact this
      have HRM : Hid (Room st' r1 0) := hr1 ▸ decideL_room fuel st' q
      have HGO : Hid (r1.err = 0 → GoodA st' q r1) := fun h => hr1 ▸ decideL_ok fuel st' q HJ.out.inv hwq (by rw [hr1]; exact h)
      have HR1 := Lib.hid hr1
      have hjn : (j : Int) < (p.seqs.length : Int) := by omega
      subst hadb
      clear hr1 hwq hra hbx hnb hdrop HIH0 hq
      by_cases hz1 : r1.err = 0
      · have hz2 : (r1.err != 0) = false := by simpa using hz1
        have HGD := Lib.hid (HGO.out hz1)
        obtain ⟨xx, hxx, _⟩ := HGD.out.ans
        have hat : r1.at_ < r1.st.steps.length := (List.getElem?_eq_some_iff.1 hxx).1
        have hatI : (r1.at_ : Int) < (r1.st.steps.length : Int) := by omega
        clear hxx
        have HZ1 := Lib.hid hz1
        clear hz1
        cases hpb : provedAt r1.st r1.at_ with
        | false =>
          as_aux_lemma =>
          go_wp2_with (first
            | (refine wp_loadSeqAt (.tmp 89) rfl rfl rfl HRA.out ?_)
            | (refine wp_storeSeq (.tmp 14) (.tmp 90) rfl rfl rfl rfl (BoxB.new wr (seqL 0 0) 81) (seqL_len _ _) ?_; intro W6 hb6 ho6; have HX6 := Lib.hid hb6; have HB6 := Lib.hid ((below_alloc wr (.cells (seqL 0 0).toArray 81)).trans (ho6.below (Nat.le_refl _))); clear hb6 ho6)
            | (refine wp_loadSeq (.tmp 14) rfl rfl rfl HX6.out ?_)
            | (go_at_call 39; refine (HIH.out _ HB6.out).mono ?_; rintro e W7 ⟨rfl, F7, G7, K7, hk7, hf7⟩; have HB6K := Lib.hid (KeptF.of_below HJ.out.fin.in_ HB6.out); have HK7 := Lib.hid hk7; have HF7 := Lib.hid hf7; have HKW7 := Lib.hid ((HJ.out.kept.trans HB6K.out).trans hk7); have HL7 := Lib.hid ((HJ.out.loc.step HB6K.out).step hk7); have HVI : Hid (vis' + ((st'.left - r1.st.left : Nat) : Int) = vis + ((st.left - r1.st.left : Nat) : Int)) := (by have h1 := HJ.out.vc; have h2 := HRM.out.left; have h3 := HJ.out.left; have h4 := HJ.out.lf; show _ = _; omega); obtain ⟨sv7, mb7, kvs7, hm7⟩ := HF7.out; obtain ⟨g7, c7, rfl, hcp7⟩ := fin_proved hm7 hat; rw [hpb] at hcp7; have c71 : W7.cell? ⟨pf, 1, none⟩ = some (.slice (some ⟨g7, 0, none⟩) r1.st.steps.length c7) := cell_of hm7.blk rfl; have HM7 := Lib.hid hm7; have c20 := HL7.out.bx.cell (stpC_at _ _ _ _ _ _).2; clear hm7; clear hk7 hf7)
            | (refine wp_loadSeq (.tmp 3) rfl rfl rfl HL7.out.b3 ?_)
            | (refine wp_build rfl rfl (v := .agg (stpC s.left s.goal false k main (.slice (some ⟨W7.heap.size, 0, none⟩) 1 1)).toArray) (by simp [go_sem]; exact build_kid _ _ _ _ _ _ _ _) ?_)
            | (go_at_call 47; refine (end_dec (x := ⟨s, false, k, main, [r1.at_]⟩) (st := st) (vis := vis) (HKW7.out.trans (KeptF.of_below HF7.out.in_ (below_alloc W7 (.cells #[.int .i64 (r1.at_ : Int)] 3)))) (HF7.out.below (below_alloc W7 _)) HVI.out (.slice (some ⟨W7.heap.size, 0, none⟩) 1 1) hs (Nat.lt_of_lt_of_le hgl (by omega)) (by have := HRM.out.len; have := HJ.out.room; omega) (rd_one W7 _ _) (fun a m c e => by cases e; refine ⟨by show W7.heap.size < _; simp, HKW7.out.size, fun hf => by have := HF7.out.in_ _ hf; exact absurd this (Nat.lt_irrefl _)⟩)).mono ?_; rintro e W8 ⟨rfl, F8, G8, K8, hk8, hf8⟩; have HK8 := Lib.hid hk8; have HF8 := Lib.hid hf8; clear hk8 hf8))
          go_ret2
          have hr0 : r = endS r1.st ⟨s, false, k, main, [r1.at_]⟩ := by
            rw [← HEQ.out, kidsF, HR1.out, if_neg (by simpa using HZ1.out), hpb]
            rfl
          rw [hr0]
          exact ⟨rfl, F8, G8, K8, HK8.out, HF8.out⟩
        | true =>
          as_aux_lemma =>
          go_wp2_with (first
            | (refine wp_loadSeqAt (.tmp 89) rfl rfl rfl HRA.out ?_)
            | (refine wp_storeSeq (.tmp 14) (.tmp 90) rfl rfl rfl rfl (BoxB.new wr (seqL 0 0) 81) (seqL_len _ _) ?_; intro W6 hb6 ho6; have HX6 := Lib.hid hb6; have HB6 := Lib.hid ((below_alloc wr (.cells (seqL 0 0).toArray 81)).trans (ho6.below (Nat.le_refl _))); clear hb6 ho6)
            | (refine wp_loadSeq (.tmp 14) rfl rfl rfl HX6.out ?_)
            | (go_at_call 39; refine (HIH.out _ HB6.out).mono ?_; rintro e W7 ⟨rfl, F7, G7, K7, hk7, hf7⟩; have HB6K := Lib.hid (KeptF.of_below HJ.out.fin.in_ HB6.out); have HK7 := Lib.hid hk7; have HF7 := Lib.hid hf7; have HKW7 := Lib.hid ((HJ.out.kept.trans HB6K.out).trans hk7); have HL7 := Lib.hid ((HJ.out.loc.step HB6K.out).step hk7); have HVI : Hid (vis' + ((st'.left - r1.st.left : Nat) : Int) = vis + ((st.left - r1.st.left : Nat) : Int)) := (by have h1 := HJ.out.vc; have h2 := HRM.out.left; have h3 := HJ.out.left; have h4 := HJ.out.lf; show _ = _; omega); obtain ⟨sv7, mb7, kvs7, hm7⟩ := HF7.out; obtain ⟨g7, c7, rfl, hcp7⟩ := fin_proved hm7 hat; rw [hpb] at hcp7; have c71 : W7.cell? ⟨pf, 1, none⟩ = some (.slice (some ⟨g7, 0, none⟩) r1.st.steps.length c7) := cell_of hm7.blk rfl; have HM7 := Lib.hid hm7; have c20 := HL7.out.bx.cell (stpC_at _ _ _ _ _ _).2; clear hm7; clear hk7 hf7)
            | (at_builtin; go_loud (refine wp_append rfl (.tmp 120) (.tmp 122) 22 rfl w.heap.size 3 _ 1 8 Tryd.underlying22 infoInt rfl (by decide) (by decide) kv kids.length (kidI kids) rfl (own_same HL7.out.ko.own (fun g hg => Below.heap_alloc _ _ _ (HL7.out.ko.own.lt g hg).2)) _ 1 [.int .i64 (r1.at_ : Int)] rfl (rd_one W7 _ _) (by simp [Value.oneCell']) (by have := HJ.out.kl; omega) (by have := HKW7.out.size; simp; omega) ?_; intro v5 w5 hown hgr hat5 hnil; obtain ⟨g5, q5, rfl⟩ := ownsRow_succ hown; have hla := HL7.out.app HF7.out.in_ hown hgr hat5; have cx := hla.1.cell (stpC_at _ _ _ _ _ _).2; have fx := hla.1.fr 20; have HLA := Lib.hid hla; clear hown hgr hat5 hnil hla)))
          have HKX : Hid (KeptF (H3 F G K) w (H3 F7 G7 K7) (w5.setCell ⟨W4.heap.size, 20, none⟩ (.slice (some ⟨g5, 0, none⟩) (kids.length + 1) q5))) := HKW7.out.thenNew HLA.out.2.2.2 (fun b hb => Nat.lt_of_lt_of_le (HF7.out.in_ b hb) HLA.out.2.2.1.size)
          have HFX : Hid (Fin F7 G7 K7 (w5.setCell ⟨W4.heap.size, 20, none⟩ (.slice (some ⟨g5, 0, none⟩) (kids.length + 1) q5)) pf t r1.st (vis' + ((st'.left - r1.st.left : Nat) : Int))) := ⟨_, _, _, HM7.out.beside HLA.out.2.2.1 (fun b hb hx => by
            rcases hx with rfl | hx
            · exact HL7.out.nx hb
            · exact HL7.out.ko.nk b hx hb)⟩
          have h1 := HRM.out.left
          have h2 := HRM.out.len
          have h3 := HJ.out
          refine ⟨⟨j + 1, F7, G7, K7, r1.st, vis' + ((st'.left - r1.st.left : Nat) : Int), kids ++ [r1.at_], _, by omega, by go_num, HKX.out, HFX.out, ?_, HLA.out.2.1, HGD.out.inv, ?_, by have := h3.left; omega, by have := h3.lf; omega, by have := h3.room; omega, by have := h3.v0; omega, by have := h3.vc; omega, by rw [List.length_append, h3.kl]; rfl⟩, by simp [intOf]; omega⟩
          · have := HEQ.out
            rw [kidsF, HR1.out, if_neg (by simpa using HZ1.out), hpb] at this
            exact this
          · intro q' hq'
            refine (h3.wf q' ?_).ext HGD.out.pre
            rw [← List.drop_drop] at hq'
            exact List.mem_of_mem_drop hq'
      · have hz2 : (r1.err != 0) = true := by simpa using hz1
        have HZ1 := Lib.hid hz1
        clear hz1
        as_aux_lemma =>
        go_wp2_with (first
          | (refine wp_loadSeqAt (.tmp 89) rfl rfl rfl HRA.out ?_)
          | (refine wp_storeSeq (.tmp 14) (.tmp 90) rfl rfl rfl rfl (BoxB.new wr (seqL 0 0) 81) (seqL_len _ _) ?_; intro W6 hb6 ho6; have HX6 := Lib.hid hb6; have HB6 := Lib.hid ((below_alloc wr (.cells (seqL 0 0).toArray 81)).trans (ho6.below (Nat.le_refl _))); clear hb6 ho6)
          | (refine wp_loadSeq (.tmp 14) rfl rfl rfl HX6.out ?_)
          | (go_at_call 39; refine (HIH.out _ HB6.out).mono ?_; rintro e W7 ⟨rfl, F7, G7, K7, hk7, hf7⟩; have HB6K := Lib.hid (KeptF.of_below HJ.out.fin.in_ HB6.out); have HK7 := Lib.hid hk7; have HF7 := Lib.hid hf7; have HKW7 := Lib.hid ((HJ.out.kept.trans HB6K.out).trans hk7); have HL7 := Lib.hid ((HJ.out.loc.step HB6K.out).step hk7); have HVI : Hid (vis' + ((st'.left - r1.st.left : Nat) : Int) = vis + ((st.left - r1.st.left : Nat) : Int)) := (by have h1 := HJ.out.vc; have h2 := HRM.out.left; have h3 := HJ.out.left; have h4 := HJ.out.lf; show _ = _; omega); clear hk7 hf7))
        go_ret2
        have hr0 : r = ⟨r1.st, r1.err, 0⟩ := by
          rw [← HEQ.out, kidsF, HR1.out, if_pos HZ1.out]
        rw [hr0]
        refine ⟨rfl, F7, G7, K7, HKW7.out, ?_⟩
        have h1 := HF7.out
        rw [HVI.out] at h1
        exact h1
    · as_aux_lemma =>
      obtain rfl : j = p.seqs.length := by omega
      have h3 := HJ.out
      have HRK : Hid (r = endS st' ⟨s, true, k, main, kids⟩) := by
        show r = _
        rw [← h3.eq, List.drop_length, kidsF]
      have HVI : Hid (vis' = vis + ((st.left - st'.left : Nat) : Int)) := by have h1 := h3.vc; have h2 := h3.lf; show _ = _; omega
      have HRD : Hid (Rd wr kv kids.length 1 (kidI kids)) := rd_own h3.loc.ko.own
      clear h3
      go_wp2_with (first
        | (refine wp_loadStep (.tmp 12) rfl rfl rfl HJ.out.loc.bx (stpC_len _ _ _ _ _ _) ?_)
        | (go_at_call 47; refine (end_dec (x := ⟨s, true, k, main, kids⟩) (st := st) (vis := vis) HJ.out.kept HJ.out.fin HVI.out kv hs (Nat.lt_of_lt_of_le hgl (by omega)) (by have := HJ.out.room; omega) HRD.out (fun a m c e => by have h1 := HJ.out.loc.ko.own.lt a.block (by rw [e]; rfl); exact ⟨h1.2, h1.1, HJ.out.loc.ko.nk a.block (by rw [e]; rfl)⟩)).mono ?_; rintro e W8 ⟨rfl, F8, G8, K8, hk8, hf8⟩; have HK8 := Lib.hid hk8; have HF8 := Lib.hid hf8; clear hk8 hf8))
      go_ret2
      rw [HRK.out]
      exact ⟨rfl, F8, G8, K8, HK8.out, HF8.out⟩
end Go.Dk
end

section
namespace Go.Dk
open Go.RowKit Go.Maps Go.MapKept
open Go.Proofs hiding intOf
/-- The premises of a choice. -/
def innF (dec : SR → SQ → SA) (s : SQ) (c : Int × Nat) (t : List (Int × Nat)) (stuck : List Nat) : List SQ → SR → List Nat → SA
  | [], st, kids => endS st ⟨s, true, c.1, c.2, kids⟩
  | q :: rest, st, kids =>
    if (dec st q).err ≠ 0 then ⟨(dec st q).st, (dec st q).err, 0⟩
    else if provedAt (dec st q).st (dec st q).at_ then innF dec s c t stuck rest (dec st q).st (kids ++ [(dec st q).at_])
    else if kids = [] then chooseF dec s t (dec st q).st (stuck ++ [(dec st q).at_])
    else endS (dec st q).st ⟨s, false, c.1, c.2, [(dec st q).at_]⟩
theorem chooseF_inn (dec : SR → SQ → SA) (s : SQ) (c : Int × Nat) (t : List (Int × Nat)) (st : SR) (stuck : List Nat) (hl : (premisesP st.rows s c.1 c.2).seqs.length ≤ 2) :
    chooseF dec s (c :: t) st stuck = if (premisesP st.rows s c.1 c.2).err ≠ 0 then ⟨st, (premisesP st.rows s c.1 c.2).err, 0⟩ else innF dec s c t stuck (premisesP st.rows s c.1 c.2).seqs ⟨(premisesP st.rows s c.1 c.2).rows, st.steps, st.left⟩ [] := by
  rw [chooseF]
  simp only
  generalize premisesP st.rows s c.1 c.2 = p at *
  split
  · rfl
  · cases hs : p.seqs with
    | nil => rfl
    | cons q more =>
      simp only
      rw [innF]
      split
      · rfl
      · split
        · cases more with
          | nil => rfl
          | cons q2 m =>
            rw [hs] at hl
            have hm : m = [] := List.eq_nil_of_length_eq_zero (by simp only [List.length_cons] at hl; omega)
            subst hm
            simp only [List.nil_append]
            rw [innF]
            split
            · rfl
            · split
              · rfl
              · rw [if_neg (by simp)]
        · rw [if_pos rfl]
theorem choicesP_len (rows : List ND) (s : SQ) : (choicesP rows s).length ≤ rows.length + 2 := by
  unfold choicesP
  rw [List.length_append, List.length_map]
  have h1 := List.length_filter_le (fun i => s.left.testBit i && onP rows s i == 13) (List.range rows.length)
  rw [List.length_range] at h1
  split <;> simp <;> omega
/-- The local boxes of choose. -/
structure ChL (H : FP) (B x3 sb : Nat) (s : SQ) (rs ms : List Int) (v8 v9 : Value) (stuck : List Nat) (skv : Value) (W : World) : Prop where
  b3 : BoxB W x3 (seqL s.left s.goal) 81
  bs : BoxB W sb (stpC s.left s.goal false 14 0 skv) 102
  so : KidO B H W skv stuck
  r8 : W.ownsRow B 100 1 v8 rs.length (ints rs)
  n8 : ∀ g, v8.ownBlock = some g → ¬ H g
  r9 : W.ownsRow B 3 1 v9 ms.length (ints ms)
  n9 : ∀ g, v9.ownBlock = some g → ¬ H g
  n3 : ¬ H x3
  ns : ¬ H sb
  lo : B ≤ sb
  d9 : ∀ g, skv.ownBlock = some g → v9.ownBlock ≠ some g
/-- The choice's own box beside them. -/
structure XL (H : FP) (B sb xb : Nat) (s : SQ) (k : Int) (main : Nat) (b : Bool) (seqs : List SQ) (ad : Option Addr) (v9 skv : Value) (kids : List Nat) (kv : Value) (W : World) : Prop where
  bx : BoxB W xb (stpC s.left s.goal b k main kv) 102
  ko : KidO B H W kv kids
  nx : ¬ H xb
  lo : B ≤ xb
  dk9 : ∀ g, kv.ownBlock = some g → v9.ownBlock ≠ some g
  dks : ∀ g, kv.ownBlock = some g → skv.ownBlock ≠ some g
  xs : xb ≠ sb
  sq : seqs = [] ∨ ∃ b, ad = some ⟨b, 0, none⟩ ∧ BoxB W b (seqs.flatMap fun s => seqL s.left s.goal) 81 ∧ ¬ H b
section
variable {H H' : FP} {B x3 sb xb : Nat} {s : SQ} {rs ms : List Int} {v8 v9 skv kv : Value} {stuck kids : List Nat} {W W' w1 : World} {k : Int} {main : Nat} {b0 : Bool} {seqs : List SQ} {ad : Option Addr}
theorem ChL.step (h : ChL H B x3 sb s rs ms v8 v9 stuck skv W) (hk : KeptF H W H' W') : ChL H' B x3 sb s rs ms v8 v9 stuck skv W' :=
  ⟨h.b3.keptF hk h.n3, h.bs.keptF hk h.ns, h.so.step hk, hk.own h.r8 h.n8, fun g hg hf => h.n8 g hg (hk.sub g (h.r8.lt g hg).2 hf), hk.own h.r9 h.n9, fun g hg hf => h.n9 g hg (hk.sub g (h.r9.lt g hg).2 hf), fun hf => h.n3 (hk.sub _ h.b3.lt hf), fun hf => h.ns (hk.sub _ h.bs.lt hf), h.lo, h.d9⟩
theorem XL.step (h : XL H B sb xb s k main b0 seqs ad v9 skv kids kv W) (hk : KeptF H W H' W') : XL H' B sb xb s k main b0 seqs ad v9 skv kids kv W' := by
  refine ⟨h.bx.keptF hk h.nx, h.ko.step hk, fun hf => h.nx (hk.sub _ h.bx.lt hf), h.lo, h.dk9, h.dks, h.xs, ?_⟩
  rcases h.sq with hs | ⟨b, h1, h2, h3⟩
  · exact .inl hs
  · exact .inr ⟨b, h1, h2.keptF hk h3, fun hf => h3 (hk.sub _ h2.lt hf)⟩
theorem rows_ne {W : World} {B B' n m : Nat} {e e' : TypeId} {v v' : Value} {xs ys : List Value} {z z' : Nat} (h : W.ownsRow B e z v n xs) (h' : W.ownsRow B' e' z' v' m ys) (hT : e ≠ e') : ∀ g, v.ownBlock = some g → v'.ownBlock ≠ some g := fun g h8 h9 => by
  rcases h.2 with ⟨e1, _⟩ | ⟨g8, c8, cur8, e8, _, hg8, _⟩
  · rw [e1] at h8; simp [Value.ownBlock] at h8
  rcases h'.2 with ⟨e1, _⟩ | ⟨g9, c9, cur9, e9, _, hg9, _⟩
  · rw [e1] at h9; simp [Value.ownBlock] at h9
  rw [e8] at h8; rw [e9] at h9
  simp [Value.ownBlock] at h8 h9
  subst h8 h9
  rw [hg8] at hg9
  simp at hg9
  exact hT hg9.2
/-- What an append and the store of its slice leave. -/
theorem app_world {o : Nat} {kv v' : Value} {n : Nat} {xs : List Value} {tmp : Obj} (hr : W.ownsRow B 3 1 kv n xs) (hg : (W.alloc tmp).grownBy w1 kv.ownBlock) (hx : xb < W.heap.size) (hl : B ≤ xb) :
    KeptF (fun b => b = xb ∨ kv.ownBlock = some b) W (fun b => b = xb ∨ kv.ownBlock = some b) (w1.setCell ⟨xb, o, none⟩ v') ∧ Below B W (w1.setCell ⟨xb, o, none⟩ v') := by
  have hsz : W.heap.size ≤ w1.heap.size := by have := hg.size; simp at this; omega
  refine ⟨⟨hg.os, hg.tape, hg.output, by simp; exact hsz, fun _ _ h => h, fun b hb => ?_, fun b hb hn => ?_⟩, ⟨hg.os, hg.tape, hg.output, by simp; exact hsz, fun b hb => ?_⟩⟩
  · rcases hb with rfl | hb
    · simp; omega
    · have := (hr.lt b hb).2; simp; omega
  · exact keep_app2 hg hb (fun e => hn (.inr e)) (fun e => hn (.inl e))
  · refine keep_app2 hg (by omega) (fun e => ?_) (fun e => by omega)
    have := (hr.lt b e).1
    omega
/-- A kid more of the choice. -/
theorem XL.app (hc : ChL H B x3 sb s rs ms v8 v9 stuck skv W) (h : XL H B sb xb s k main b0 seqs ad v9 skv kids kv W) (hH : H.in_ W) {v' : Value} {i : Nat} {tmp : Obj}
    (hown : w1.ownsRow B 3 1 v' (kids.length + 1) (kidI kids ++ [.int .i64 (i : Int)])) (hg : (W.alloc tmp).grownBy w1 kv.ownBlock) (hat : v'.ownBlock = kv.ownBlock ∨ v'.ownBlock = some (W.alloc tmp).heap.size) :
    BoxB w1 xb (stpC s.left s.goal b0 k main kv) 102 ∧ ChL H B x3 sb s rs ms v8 v9 stuck skv (w1.setCell ⟨xb, 20, none⟩ v') ∧ XL H B sb xb s k main b0 seqs ad v9 skv (kids ++ [i]) v' (w1.setCell ⟨xb, 20, none⟩ v') := by
  have nkx : kv.ownBlock ≠ some xb := box_lt_ne h.bx (by decide) h.ko.own
  have n3x : x3 ≠ xb := box_ne hc.b3 h.bx (by decide)
  have hb1 : BoxB w1 xb (stpC s.left s.goal b0 k main kv) 102 := (hg.block xb (by simp; have := h.bx.lt; omega) (fun e => nkx e.symm)).trans ((Below.heap_alloc _ _ _ h.bx.lt).trans h.bx)
  have hnv : v'.ownBlock ≠ some xb := box_lt_ne hb1 (by decide) hown
  have new9 : ∀ (u : Value) (n : Nat) (ys : List Value) (e : TypeId), W.ownsRow B e 1 u n ys → (∀ g, kv.ownBlock = some g → u.ownBlock ≠ some g) → ∀ g, v'.ownBlock = some g → u.ownBlock ≠ some g := fun u n ys e hu hd g hg' hu' => by
    rcases hat with e | e
    · exact hd g (e ▸ hg') hu'
    · rw [e] at hg'
      cases hg'
      have := (hu.lt _ hu').2
      simp at this
      omega
  have hso := h.dks
  refine ⟨hb1, ⟨?_, ?_, ⟨?_, hc.so.nk⟩, ?_, hc.n8, ?_, hc.n9, hc.n3, hc.ns, hc.lo, hc.d9⟩, ⟨?_, ⟨?_, fun g hg' hf => ?_⟩, h.nx, h.lo, ?_, ?_, h.xs, ?_⟩⟩
  · exact (keep_app2 hg hc.b3.lt (box_lt_ne hc.b3 (by decide) h.ko.own) n3x).trans hc.b3
  · exact (keep_app2 hg hc.bs.lt (box_lt_ne hc.bs (by decide) h.ko.own) (fun e => h.xs e.symm)).trans hc.bs
  · exact own_same hc.so.own fun g hg' => keep_app2 hg (hc.so.own.lt g hg').2 (fun e => h.dks g e hg') (fun e => box_lt_ne h.bx (by decide) hc.so.own (by rw [hg', e]))
  · exact own_same hc.r8 fun g hg' => keep_app2 hg (hc.r8.lt g hg').2 (fun e => rows_ne h.ko.own hc.r8 (by decide) g e hg') (fun e => box_lt_ne h.bx (by decide) hc.r8 (by rw [hg', e]))
  · exact own_same hc.r9 fun g hg' => keep_app2 hg (hc.r9.lt g hg').2 (fun e => h.dk9 g e hg') (fun e => box_lt_ne h.bx (by decide) hc.r9 (by rw [hg', e]))
  · have := hb1.set 20 v'
    rw [stpC_set20] at this
    exact this
  · rw [List.length_append, kidI_snoc]
    exact own_same hown fun g hg' => Below.heap_setCell _ _ _ _ (fun e => hnv (by rw [hg', e]))
  · rcases hat with e | e
    · exact h.ko.nk g (e ▸ hg') hf
    · rw [e] at hg'
      cases hg'
      have := hH _ hf
      simp at this
      omega
  · exact new9 v9 _ _ _ hc.r9 h.dk9
  · exact new9 skv _ _ _ hc.so.own h.dks
  · rcases h.sq with hs | ⟨b, h1, h2, h3⟩
    · exact .inl hs
    · exact .inr ⟨b, h1, (keep_app2 hg h2.lt (box_lt_ne h2 (by decide) h.ko.own) (box_ne h2 h.bx (by decide))).trans h2, h3⟩
/-- A kid more of what is stuck. -/
theorem ChL.app (hc : ChL H B x3 sb s rs ms v8 v9 stuck skv W) (hbx : BoxB W xb (stpC s.left s.goal b0 k main kv) 102) (hxs : xb ≠ sb) (hH : H.in_ W) {v' : Value} {i : Nat} {tmp : Obj}
    (hown : w1.ownsRow B 3 1 v' (stuck.length + 1) (kidI stuck ++ [.int .i64 (i : Int)])) (hg : (W.alloc tmp).grownBy w1 skv.ownBlock) (hat : v'.ownBlock = skv.ownBlock ∨ v'.ownBlock = some (W.alloc tmp).heap.size) :
    BoxB w1 sb (stpC s.left s.goal false 14 0 skv) 102 ∧ ChL H B x3 sb s rs ms v8 v9 (stuck ++ [i]) v' (w1.setCell ⟨sb, 20, none⟩ v') ∧ BoxB (w1.setCell ⟨sb, 20, none⟩ v') xb (stpC s.left s.goal b0 k main kv) 102 := by
  have nkx : skv.ownBlock ≠ some sb := box_lt_ne hc.bs (by decide) hc.so.own
  have n3x : x3 ≠ sb := box_ne hc.b3 hc.bs (by decide)
  have hb1 : BoxB w1 sb (stpC s.left s.goal false 14 0 skv) 102 := (hg.block sb (by simp; have := hc.bs.lt; omega) (fun e => nkx e.symm)).trans ((Below.heap_alloc _ _ _ hc.bs.lt).trans hc.bs)
  have hnv : v'.ownBlock ≠ some sb := box_lt_ne hb1 (by decide) hown
  refine ⟨hb1, ⟨?_, ?_, ⟨?_, fun g hg' hf => ?_⟩, ?_, hc.n8, ?_, hc.n9, hc.n3, hc.ns, hc.lo, fun g hg' h9 => ?_⟩, ?_⟩
  · exact (keep_app2 hg hc.b3.lt (box_lt_ne hc.b3 (by decide) hc.so.own) n3x).trans hc.b3
  · have := hb1.set 20 v'
    rw [stpC_set20] at this
    exact this
  · rw [List.length_append, kidI_snoc]
    exact own_same hown fun g hg' => Below.heap_setCell _ _ _ _ (fun e => hnv (by rw [hg', e]))
  · rcases hat with e | e
    · exact hc.so.nk g (e ▸ hg') hf
    · rw [e] at hg'
      cases hg'
      have := hH _ hf
      simp at this
      omega
  · exact own_same hc.r8 fun g hg' => keep_app2 hg (hc.r8.lt g hg').2 (fun e => rows_ne hc.so.own hc.r8 (by decide) g e hg') (fun e => box_lt_ne hc.bs (by decide) hc.r8 (by rw [hg', e]))
  · exact own_same hc.r9 fun g hg' => keep_app2 hg (hc.r9.lt g hg').2 (fun e => hc.d9 g e hg') (fun e => box_lt_ne hc.bs (by decide) hc.r9 (by rw [hg', e]))
  · rcases hat with e | e
    · exact hc.d9 g (e ▸ hg') h9
    · rw [e] at hg'
      cases hg'
      have := (hc.r9.lt _ h9).2
      simp at this
      omega
  · exact (keep_app2 hg hbx.lt (box_lt_ne hbx (by decide) hc.so.own) hxs).trans hbx
end
end Go.Dk
end
