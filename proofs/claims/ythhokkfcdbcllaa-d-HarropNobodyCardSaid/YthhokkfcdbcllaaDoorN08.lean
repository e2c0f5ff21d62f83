/- Parts of the proof: Kv, Kw, Kx, Ky. -/
import Derived.Test.YthhokkfcdbcllaaDoorN01
import Derived.Test.YthhokkfcdbcllaaDoorN02
import Derived.Test.YthhokkfcdbcllaaDoorN03
import Derived.Test.YthhokkfcdbcllaaDoorN04
import Derived.Test.YthhokkfcdbcllaaDoorN05
import Derived.Test.YthhokkfcdbcllaaDoorN06
import Derived.Test.YthhokkfcdbcllaaDoorN07
section
namespace Go.Dk
open Go.RowKit Go.Maps Go.MapKept
open Go.Proofs hiding intOf
def fitsR (rows : List ND) (s : SQ) (k : Int) (main : Nat) : Bool :=
  if k = 2 then main == s.goal && s.left.testBit main
  else if k = 8 then main == s.goal && (rowAt rows main).kind == 5
  else if k = 9 then main == s.goal && (rowAt rows main).kind == 3
  else if k = 11 ∨ k = 12 then main == s.goal && (rowAt rows main).kind == 4
  else decide (k ≠ 0) && s.left.testBit main && onP rows s main == k
set_option maxRecDepth 100000 in
set_option maxHeartbeats 2000000 in
theorem fits2_any (k : Nat) (ow : Own) (w : World) (t : Value) (rows : List ND) (h : Tab k ow w t rows) (s : SQ) (main : Nat) (hm : main < rows.length) (gl : Bool) (hg : ((main : Int) == (s.goal : Int)) = gl) :
    Calls Tryd.prog 54 #[t, .agg (seqL s.left s.goal).toArray, .int .i64 2, .int .i64 (main : Int)] w fun e w' => e = .returned (.bool (gl && s.left.testBit main)) ∧ Below w.heap.size w w' := by
  have HB0 := Lib.hid (below_alloc w (.cells (seqL s.left s.goal).toArray 81))
  have HQ0 := Lib.hid (BoxB.new w (seqL s.left s.goal) 81)
  have HL := Lib.hid (len_any k ow _ t rows (h.below HB0.out))
  have HH := Lib.hid (fun W' => has_in W' s.left main (Nat.lt_of_lt_of_le hm h.ok.le))
  obtain ⟨n, hn⟩ : ∃ n, rowAt rows main = n := ⟨_, rfl⟩
  have HN := Lib.hid (rnode_is k ow w t rows h main hm n hn)
  obtain ⟨lf, hlf⟩ : ∃ lf, lf = s.left.testBit main := ⟨_, rfl⟩
  rw [← hlf] at HH
  try rw [← hlf]
  have hlen : ((rows.length : Int) ≤ (main : Int)) = False := by simp; omega
  have hd : decide ((main : Int) < 0) = false := decide_eq_false (by omega)
  have hd2 : decide ((rows.length : Int) ≤ (main : Int)) = false := decide_eq_false (by omega)
  obtain ⟨kd, nm, l, r⟩ := n
  simp only at HN ⊢
  have hfk := fun W => fieldKind (.int .i64 kd) (.string nm) (.int .i64 l) (.int .i64 r) W
  clear h hn hlf hlen
  have hu : Tryd.prog.underlying 72 = some (.array 16 70) := by kernel_rfl
  have hi : (Tryd.prog.info? 72).map (·.size) = some (bitsV s.left).length := by rw [bitsV_len]; exact iBits
  have HC : Hid (∀ W', BoxB W' w.heap.size (seqL s.left s.goal) 81 → W'.cell? ⟨w.heap.size, 16, none⟩ = some (.int .i64 (s.goal : Int)) ∧ W'.rangeAt w.heap.size 0 (bitsV s.left)) := fun W' hb => ⟨hb.cell (seqL_goal s.left s.goal), hb.range (seqL_left s.left s.goal)⟩
  go_enter Tryd.func54, Tryd.ntmps54
  go_wp2_with (go_at_call 16; refine HL.out.mono ?_; rintro e w1 ⟨rfl, rfl⟩)
  generalize (w.alloc (.cells (seqL s.left s.goal).toArray 81)) = W0 at *
  go_region_held3 (fun W' => W'.cell? ⟨w.heap.size, 16, none⟩ = some (.int .i64 (s.goal : Int)) ∧ W'.rangeAt w.heap.size 0 (bitsV s.left)) (first | exact HC.out _ (HQ0.out.below (below_drewN W0 1)) | exact HC.out _ HQ1.out)
    ((go_at_call 62; refine (HH.out _).mono ?_; rintro e W1 ⟨rfl, hb1⟩; have HB1 := Lib.hid (below_trans HB0.out (below_trans (below_drewN W0 1) hb1)); have HQ1 := Lib.hid (HQ0.out.below (below_trans (below_drewN W0 1) hb1)); clear hb1))
  cases gl
  all_goals
    as_aux_lemma =>
    go_wp2_with (go_at_call 66; refine (HN.out _ HB1.out).mono ?_; rintro e W2 ⟨rfl, hb2⟩; have HB2 := Lib.hid (below_trans HB1.out hb2); clear hb2)
    go_ret
    exact ⟨by simp, HB2.out⟩
set_option maxRecDepth 100000 in
set_option maxHeartbeats 2000000 in
theorem fits8_any (k : Nat) (ow : Own) (w : World) (t : Value) (rows : List ND) (h : Tab k ow w t rows) (s : SQ) (main : Nat) (hm : main < rows.length) (gl : Bool) (hg : ((main : Int) == (s.goal : Int)) = gl) :
    Calls Tryd.prog 54 #[t, .agg (seqL s.left s.goal).toArray, .int .i64 8, .int .i64 (main : Int)] w fun e w' => e = .returned (.bool (gl && ((rowAt rows main).kind == 5))) ∧ Below w.heap.size w w' := by
  have HB0 := Lib.hid (below_alloc w (.cells (seqL s.left s.goal).toArray 81))
  have HQ0 := Lib.hid (BoxB.new w (seqL s.left s.goal) 81)
  have HL := Lib.hid (len_any k ow _ t rows (h.below HB0.out))
  have HH := Lib.hid (fun W' => has_in W' s.left main (Nat.lt_of_lt_of_le hm h.ok.le))
  obtain ⟨n, hn⟩ : ∃ n, rowAt rows main = n := ⟨_, rfl⟩
  have HN := Lib.hid (rnode_is k ow w t rows h main hm n hn)
  rw [hn]
  obtain ⟨lf, hlf⟩ : ∃ lf, lf = s.left.testBit main := ⟨_, rfl⟩
  rw [← hlf] at HH
  try rw [← hlf]
  have hlen : ((rows.length : Int) ≤ (main : Int)) = False := by simp; omega
  have hd : decide ((main : Int) < 0) = false := decide_eq_false (by omega)
  have hd2 : decide ((rows.length : Int) ≤ (main : Int)) = false := decide_eq_false (by omega)
  obtain ⟨kd, nm, l, r⟩ := n
  simp only at HN ⊢
  have hfk := fun W => fieldKind (.int .i64 kd) (.string nm) (.int .i64 l) (.int .i64 r) W
  clear h hn hlf hlen
  have hu : Tryd.prog.underlying 72 = some (.array 16 70) := by kernel_rfl
  have hi : (Tryd.prog.info? 72).map (·.size) = some (bitsV s.left).length := by rw [bitsV_len]; exact iBits
  have HC : Hid (∀ W', BoxB W' w.heap.size (seqL s.left s.goal) 81 → W'.cell? ⟨w.heap.size, 16, none⟩ = some (.int .i64 (s.goal : Int)) ∧ W'.rangeAt w.heap.size 0 (bitsV s.left)) := fun W' hb => ⟨hb.cell (seqL_goal s.left s.goal), hb.range (seqL_left s.left s.goal)⟩
  go_enter Tryd.func54, Tryd.ntmps54
  go_wp2_with (go_at_call 16; refine HL.out.mono ?_; rintro e w1 ⟨rfl, rfl⟩)
  generalize (w.alloc (.cells (seqL s.left s.goal).toArray 81)) = W0 at *
  go_region_held3 (fun W' => W'.cell? ⟨w.heap.size, 16, none⟩ = some (.int .i64 (s.goal : Int)) ∧ W'.rangeAt w.heap.size 0 (bitsV s.left)) (first | exact HC.out _ (HQ0.out.below (below_drewN W0 1)) | exact HC.out _ HQ1.out)
    ((go_at_call 62; refine (HH.out _).mono ?_; rintro e W1 ⟨rfl, hb1⟩; have HB1 := Lib.hid (below_trans HB0.out (below_trans (below_drewN W0 1) hb1)); have HQ1 := Lib.hid (HQ0.out.below (below_trans (below_drewN W0 1) hb1)); clear hb1))
  cases gl
  all_goals
    as_aux_lemma =>
    go_wp2_with (go_at_call 66; refine (HN.out _ HB1.out).mono ?_; rintro e W2 ⟨rfl, hb2⟩; have HB2 := Lib.hid (below_trans HB1.out hb2); clear hb2)
    go_ret
    exact ⟨by simp, HB2.out⟩
set_option maxRecDepth 100000 in
set_option maxHeartbeats 2000000 in
theorem fits9_any (k : Nat) (ow : Own) (w : World) (t : Value) (rows : List ND) (h : Tab k ow w t rows) (s : SQ) (main : Nat) (hm : main < rows.length) (gl : Bool) (hg : ((main : Int) == (s.goal : Int)) = gl) :
    Calls Tryd.prog 54 #[t, .agg (seqL s.left s.goal).toArray, .int .i64 9, .int .i64 (main : Int)] w fun e w' => e = .returned (.bool (gl && ((rowAt rows main).kind == 3))) ∧ Below w.heap.size w w' := by
  have HB0 := Lib.hid (below_alloc w (.cells (seqL s.left s.goal).toArray 81))
  have HQ0 := Lib.hid (BoxB.new w (seqL s.left s.goal) 81)
  have HL := Lib.hid (len_any k ow _ t rows (h.below HB0.out))
  have HH := Lib.hid (fun W' => has_in W' s.left main (Nat.lt_of_lt_of_le hm h.ok.le))
  obtain ⟨n, hn⟩ : ∃ n, rowAt rows main = n := ⟨_, rfl⟩
  have HN := Lib.hid (rnode_is k ow w t rows h main hm n hn)
  rw [hn]
  obtain ⟨lf, hlf⟩ : ∃ lf, lf = s.left.testBit main := ⟨_, rfl⟩
  rw [← hlf] at HH
  try rw [← hlf]
  have hlen : ((rows.length : Int) ≤ (main : Int)) = False := by simp; omega
  have hd : decide ((main : Int) < 0) = false := decide_eq_false (by omega)
  have hd2 : decide ((rows.length : Int) ≤ (main : Int)) = false := decide_eq_false (by omega)
  obtain ⟨kd, nm, l, r⟩ := n
  simp only at HN ⊢
  have hfk := fun W => fieldKind (.int .i64 kd) (.string nm) (.int .i64 l) (.int .i64 r) W
  clear h hn hlf hlen
  have hu : Tryd.prog.underlying 72 = some (.array 16 70) := by kernel_rfl
  have hi : (Tryd.prog.info? 72).map (·.size) = some (bitsV s.left).length := by rw [bitsV_len]; exact iBits
  have HC : Hid (∀ W', BoxB W' w.heap.size (seqL s.left s.goal) 81 → W'.cell? ⟨w.heap.size, 16, none⟩ = some (.int .i64 (s.goal : Int)) ∧ W'.rangeAt w.heap.size 0 (bitsV s.left)) := fun W' hb => ⟨hb.cell (seqL_goal s.left s.goal), hb.range (seqL_left s.left s.goal)⟩
  go_enter Tryd.func54, Tryd.ntmps54
  go_wp2_with (go_at_call 16; refine HL.out.mono ?_; rintro e w1 ⟨rfl, rfl⟩)
  generalize (w.alloc (.cells (seqL s.left s.goal).toArray 81)) = W0 at *
  go_region_held3 (fun W' => W'.cell? ⟨w.heap.size, 16, none⟩ = some (.int .i64 (s.goal : Int)) ∧ W'.rangeAt w.heap.size 0 (bitsV s.left)) (first | exact HC.out _ (HQ0.out.below (below_drewN W0 1)) | exact HC.out _ HQ1.out)
    ((go_at_call 62; refine (HH.out _).mono ?_; rintro e W1 ⟨rfl, hb1⟩; have HB1 := Lib.hid (below_trans HB0.out (below_trans (below_drewN W0 1) hb1)); have HQ1 := Lib.hid (HQ0.out.below (below_trans (below_drewN W0 1) hb1)); clear hb1))
  cases gl
  all_goals
    as_aux_lemma =>
    go_wp2_with (go_at_call 66; refine (HN.out _ HB1.out).mono ?_; rintro e W2 ⟨rfl, hb2⟩; have HB2 := Lib.hid (below_trans HB1.out hb2); clear hb2)
    go_ret
    exact ⟨by simp, HB2.out⟩
set_option maxRecDepth 100000 in
set_option maxHeartbeats 2000000 in
theorem fits11_any (k : Nat) (ow : Own) (w : World) (t : Value) (rows : List ND) (h : Tab k ow w t rows) (s : SQ) (main : Nat) (hm : main < rows.length) (gl : Bool) (hg : ((main : Int) == (s.goal : Int)) = gl) :
    Calls Tryd.prog 54 #[t, .agg (seqL s.left s.goal).toArray, .int .i64 11, .int .i64 (main : Int)] w fun e w' => e = .returned (.bool (gl && ((rowAt rows main).kind == 4))) ∧ Below w.heap.size w w' := by
  have HB0 := Lib.hid (below_alloc w (.cells (seqL s.left s.goal).toArray 81))
  have HQ0 := Lib.hid (BoxB.new w (seqL s.left s.goal) 81)
  have HL := Lib.hid (len_any k ow _ t rows (h.below HB0.out))
  have HH := Lib.hid (fun W' => has_in W' s.left main (Nat.lt_of_lt_of_le hm h.ok.le))
  obtain ⟨n, hn⟩ : ∃ n, rowAt rows main = n := ⟨_, rfl⟩
  have HN := Lib.hid (rnode_is k ow w t rows h main hm n hn)
  rw [hn]
  obtain ⟨lf, hlf⟩ : ∃ lf, lf = s.left.testBit main := ⟨_, rfl⟩
  rw [← hlf] at HH
  try rw [← hlf]
  have hlen : ((rows.length : Int) ≤ (main : Int)) = False := by simp; omega
  have hd : decide ((main : Int) < 0) = false := decide_eq_false (by omega)
  have hd2 : decide ((rows.length : Int) ≤ (main : Int)) = false := decide_eq_false (by omega)
  obtain ⟨kd, nm, l, r⟩ := n
  simp only at HN ⊢
  have hfk := fun W => fieldKind (.int .i64 kd) (.string nm) (.int .i64 l) (.int .i64 r) W
  clear h hn hlf hlen
  have hu : Tryd.prog.underlying 72 = some (.array 16 70) := by kernel_rfl
  have hi : (Tryd.prog.info? 72).map (·.size) = some (bitsV s.left).length := by rw [bitsV_len]; exact iBits
  have HC : Hid (∀ W', BoxB W' w.heap.size (seqL s.left s.goal) 81 → W'.cell? ⟨w.heap.size, 16, none⟩ = some (.int .i64 (s.goal : Int)) ∧ W'.rangeAt w.heap.size 0 (bitsV s.left)) := fun W' hb => ⟨hb.cell (seqL_goal s.left s.goal), hb.range (seqL_left s.left s.goal)⟩
  go_enter Tryd.func54, Tryd.ntmps54
  go_wp2_with (go_at_call 16; refine HL.out.mono ?_; rintro e w1 ⟨rfl, rfl⟩)
  generalize (w.alloc (.cells (seqL s.left s.goal).toArray 81)) = W0 at *
  go_region_held3 (fun W' => W'.cell? ⟨w.heap.size, 16, none⟩ = some (.int .i64 (s.goal : Int)) ∧ W'.rangeAt w.heap.size 0 (bitsV s.left)) (first | exact HC.out _ (HQ0.out.below (below_drewN W0 1)) | exact HC.out _ HQ1.out)
    ((go_at_call 62; refine (HH.out _).mono ?_; rintro e W1 ⟨rfl, hb1⟩; have HB1 := Lib.hid (below_trans HB0.out (below_trans (below_drewN W0 1) hb1)); have HQ1 := Lib.hid (HQ0.out.below (below_trans (below_drewN W0 1) hb1)); clear hb1))
  cases gl
  all_goals
    as_aux_lemma =>
    go_wp2_with (go_at_call 66; refine (HN.out _ HB1.out).mono ?_; rintro e W2 ⟨rfl, hb2⟩; have HB2 := Lib.hid (below_trans HB1.out hb2); clear hb2)
    go_ret
    exact ⟨by simp, HB2.out⟩
set_option maxRecDepth 100000 in
set_option maxHeartbeats 2000000 in
theorem fits12_any (k : Nat) (ow : Own) (w : World) (t : Value) (rows : List ND) (h : Tab k ow w t rows) (s : SQ) (main : Nat) (hm : main < rows.length) (gl : Bool) (hg : ((main : Int) == (s.goal : Int)) = gl) :
    Calls Tryd.prog 54 #[t, .agg (seqL s.left s.goal).toArray, .int .i64 12, .int .i64 (main : Int)] w fun e w' => e = .returned (.bool (gl && ((rowAt rows main).kind == 4))) ∧ Below w.heap.size w w' := by
  have HB0 := Lib.hid (below_alloc w (.cells (seqL s.left s.goal).toArray 81))
  have HQ0 := Lib.hid (BoxB.new w (seqL s.left s.goal) 81)
  have HL := Lib.hid (len_any k ow _ t rows (h.below HB0.out))
  have HH := Lib.hid (fun W' => has_in W' s.left main (Nat.lt_of_lt_of_le hm h.ok.le))
  obtain ⟨n, hn⟩ : ∃ n, rowAt rows main = n := ⟨_, rfl⟩
  have HN := Lib.hid (rnode_is k ow w t rows h main hm n hn)
  rw [hn]
  obtain ⟨lf, hlf⟩ : ∃ lf, lf = s.left.testBit main := ⟨_, rfl⟩
  rw [← hlf] at HH
  try rw [← hlf]
  have hlen : ((rows.length : Int) ≤ (main : Int)) = False := by simp; omega
  have hd : decide ((main : Int) < 0) = false := decide_eq_false (by omega)
  have hd2 : decide ((rows.length : Int) ≤ (main : Int)) = false := decide_eq_false (by omega)
  obtain ⟨kd, nm, l, r⟩ := n
  simp only at HN ⊢
  have hfk := fun W => fieldKind (.int .i64 kd) (.string nm) (.int .i64 l) (.int .i64 r) W
  clear h hn hlf hlen
  have hu : Tryd.prog.underlying 72 = some (.array 16 70) := by kernel_rfl
  have hi : (Tryd.prog.info? 72).map (·.size) = some (bitsV s.left).length := by rw [bitsV_len]; exact iBits
  have HC : Hid (∀ W', BoxB W' w.heap.size (seqL s.left s.goal) 81 → W'.cell? ⟨w.heap.size, 16, none⟩ = some (.int .i64 (s.goal : Int)) ∧ W'.rangeAt w.heap.size 0 (bitsV s.left)) := fun W' hb => ⟨hb.cell (seqL_goal s.left s.goal), hb.range (seqL_left s.left s.goal)⟩
  go_enter Tryd.func54, Tryd.ntmps54
  go_wp2_with (go_at_call 16; refine HL.out.mono ?_; rintro e w1 ⟨rfl, rfl⟩)
  generalize (w.alloc (.cells (seqL s.left s.goal).toArray 81)) = W0 at *
  go_region_held3 (fun W' => W'.cell? ⟨w.heap.size, 16, none⟩ = some (.int .i64 (s.goal : Int)) ∧ W'.rangeAt w.heap.size 0 (bitsV s.left)) (first | exact HC.out _ (HQ0.out.below (below_drewN W0 1)) | exact HC.out _ HQ1.out)
    ((go_at_call 62; refine (HH.out _).mono ?_; rintro e W1 ⟨rfl, hb1⟩; have HB1 := Lib.hid (below_trans HB0.out (below_trans (below_drewN W0 1) hb1)); have HQ1 := Lib.hid (HQ0.out.below (below_trans (below_drewN W0 1) hb1)); clear hb1))
  cases gl
  all_goals
    as_aux_lemma =>
    go_wp2_with (go_at_call 66; refine (HN.out _ HB1.out).mono ?_; rintro e W2 ⟨rfl, hb2⟩; have HB2 := Lib.hid (below_trans HB1.out hb2); clear hb2)
    go_ret
    exact ⟨by simp, HB2.out⟩
end Go.Dk
end

section
namespace Go.Dk
open Go.RowKit Go.Maps Go.MapKept
open Go.Proofs hiding intOf
section
variable {ops : Array Oper} {rest : List Oper} {o : Oper} {a : Act} {Q : Exit → Act → World → Prop} {W : World} {b m : Nat} {g : Int}
/-- A guarded load that is wanted. -/
theorem wp_loadSeqW (x : Operand) (hop : o.op = .load 81 x) (hw : Region.wanted o (yielded ops a.tmps) = true) (hx : a.eval x = .pointer (some ⟨b, 0, none⟩)) {T : TypeId} (h : BoxB W b (seqL m g) T) (hk : wpList Tryd.prog ops Q rest (a.put o.dst (.agg (seqL m g).toArray)) W) : wpList Tryd.prog ops Q (o :: rest) a W := by
  obtain ⟨d, hu, hd⟩ := uSeq
  unfold wpList
  rw [if_pos hw]
  left
  exact wp_load_mid _ x hop b 0 hx (seqL m g) d (h.range (by simp)) hu hd (by rw [seqL_len]; exact iSeq) hk
end
set_option maxRecDepth 100000 in
set_option maxHeartbeats 2000000 in
theorem fitsL_any (k : Nat) (ow : Own) (w : World) (t : Value) (rows : List ND) (h : Tab k ow w t rows) (s : SQ) (main : Nat) (kk : Int) (h0 : ¬ kk = 0) (h2 : (kk == 2) = false) (h8 : (kk == 8) = false) (h9 : (kk == 9) = false) (h11 : (kk == 11) = false) (h12 : (kk == 12) = false) (hm : main < rows.length) (gl : Bool) (hg : ((main : Int) == (s.goal : Int)) = gl) :
    Calls Tryd.prog 54 #[t, .agg (seqL s.left s.goal).toArray, .int .i64 kk, .int .i64 (main : Int)] w fun e w' => e = .returned (.bool (s.left.testBit main && (onP rows s main == kk))) ∧ Below w.heap.size w w' := by
  have HB0 := Lib.hid (below_alloc w (.cells (seqL s.left s.goal).toArray 81))
  have HQ0 := Lib.hid (BoxB.new w (seqL s.left s.goal) 81)
  have HL := Lib.hid (len_any k ow _ t rows (h.below HB0.out))
  have HO : Hid (∀ W, Below w.heap.size w W → Calls Tryd.prog 70 #[t, .agg (seqL s.left s.goal).toArray, .int .i64 (main : Int)] W fun e w' => e = .returned (.int .i64 (onP rows s main)) ∧ Below W.heap.size W w') := fun W hb => on_any k ow W t rows (h.below hb) s s.goal main hm
  obtain ⟨ov, hov⟩ : ∃ ov, ov = onP rows s main := ⟨_, rfl⟩
  rw [← hov] at HO ⊢
  clear hov
  have HH := Lib.hid (fun W' => has_in W' s.left main (Nat.lt_of_lt_of_le hm h.ok.le))
  obtain ⟨n, hn⟩ : ∃ n, rowAt rows main = n := ⟨_, rfl⟩
  have HN := Lib.hid (rnode_is k ow w t rows h main hm n hn)
  obtain ⟨lf, hlf⟩ : ∃ lf, lf = s.left.testBit main := ⟨_, rfl⟩
  rw [← hlf] at HH
  try rw [← hlf]
  have hlen : ((rows.length : Int) ≤ (main : Int)) = False := by simp; omega
  have hd : decide ((main : Int) < 0) = false := decide_eq_false (by omega)
  have hd2 : decide ((rows.length : Int) ≤ (main : Int)) = false := decide_eq_false (by omega)
  obtain ⟨kd, nm, l, r⟩ := n
  simp only at HN ⊢
  have hfk := fun W => fieldKind (.int .i64 kd) (.string nm) (.int .i64 l) (.int .i64 r) W
  clear h hn hlf hlen
  have hu : Tryd.prog.underlying 72 = some (.array 16 70) := by kernel_rfl
  have hi : (Tryd.prog.info? 72).map (·.size) = some (bitsV s.left).length := by rw [bitsV_len]; exact iBits
  have HC : Hid (∀ W', BoxB W' w.heap.size (seqL s.left s.goal) 81 → W'.cell? ⟨w.heap.size, 16, none⟩ = some (.int .i64 (s.goal : Int)) ∧ W'.rangeAt w.heap.size 0 (bitsV s.left)) := fun W' hb => ⟨hb.cell (seqL_goal s.left s.goal), hb.range (seqL_left s.left s.goal)⟩
  go_enter Tryd.func54, Tryd.ntmps54
  go_wp2_with (go_at_call 16; refine HL.out.mono ?_; rintro e w1 ⟨rfl, rfl⟩)
  generalize (w.alloc (.cells (seqL s.left s.goal).toArray 81)) = W0 at *
  go_region_held3 (fun W' => W'.cell? ⟨w.heap.size, 16, none⟩ = some (.int .i64 (s.goal : Int)) ∧ W'.rangeAt w.heap.size 0 (bitsV s.left)) (first | exact HC.out _ (HQ0.out.below (below_drewN W0 1)) | exact HC.out _ HQ1.out)
    ((go_at_call 62; refine (HH.out _).mono ?_; rintro e W1 ⟨rfl, hb1⟩; have HB1 := Lib.hid (below_trans HB0.out (below_trans (below_drewN W0 1) hb1)); have HQ1 := Lib.hid (HQ0.out.below (below_trans (below_drewN W0 1) hb1)); clear hb1))
  cases lf
  · as_aux_lemma =>
    go_wp2_with (go_at_call 66; refine (HN.out _ HB1.out).mono ?_; rintro e W2 ⟨rfl, hb2⟩; have HB2 := Lib.hid (below_trans HB1.out hb2); clear hb2)
    go_ret
    exact ⟨by simp, HB2.out⟩
  · as_aux_lemma =>
    go_wp2_with (first
      | (go_at_call 66; refine (HN.out _ HB1.out).mono ?_; rintro e W2 ⟨rfl, hb2⟩; have HB2 := Lib.hid (below_trans HB1.out hb2); have HQ2 := Lib.hid (HQ1.out.below hb2); clear hb2)
      | (refine wp_loadSeqW (.tmp 5) rfl (by first | rfl | simp [Region.wanted, yielded, h0]) rfl HQ2.out ?_)
      | (go_at_call 70; refine (HO.out _ HB2.out).mono ?_; rintro e W3 ⟨rfl, hb3⟩; have HB3 := Lib.hid (below_trans HB2.out hb3); clear hb3))
    go_ret
    exact ⟨by simp [h0], HB3.out⟩
end Go.Dk
end

section
namespace Go.Dk
open Go.RowKit Go.Maps Go.MapKept
open Go.Proofs hiding intOf
theorem take_set (l : List Value) (k : Nat) (v : Value) (h : k < l.length) : (l.set k v).take (k + 1) = l.take k ++ [v] := by
  rw [List.take_succ_eq_append_getElem (by simpa using h), List.take_set_of_le (Nat.le_refl _)]
  simp
theorem fold_set (vs : List Value) : ∀ (k : Nat) (cs : Array Value), cs.size = k + vs.length → List.foldl (fun (cs : Array Value) (x : Value × Nat) => cs.setIfInBounds x.2 x.1) cs (vs.zipIdx k) = (cs.toList.take k ++ vs).toArray := by
  induction vs with
  | nil =>
    intro k cs h
    have e : cs.toList.take k = cs.toList := List.take_of_length_le (by simp at h ⊢; omega)
    simp [e]
  | cons v vs ih =>
    intro k cs h
    rw [List.zipIdx_cons, List.foldl_cons, ih (k + 1) _ (by simp at h ⊢; omega)]
    rw [Array.toList_setIfInBounds, take_set _ _ _ (by simp at h ⊢; omega)]
    simp
theorem fold_seq (m : Nat) (g : Int) : List.foldl (fun (cs : Array Value) (x : Value × Nat) => cs.setIfInBounds x.2 x.1) (#[.int .u64 0, .int .u64 0, .int .u64 0, .int .u64 0, .int .u64 0, .int .u64 0, .int .u64 0, .int .u64 0, .int .u64 0, .int .u64 0, .int .u64 0, .int .u64 0, .int .u64 0, .int .u64 0, .int .u64 0, .int .u64 0, .int .i64 0] : Array Value) (seqL m g).zipIdx = (seqL m g).toArray := by
  rw [fold_set (seqL m g) 0 _ (by rw [seqL_len]; rfl)]
  simp
set_option maxRecDepth 100000 in
set_option maxHeartbeats 2000000 in
theorem prem5_any (k : Nat) (ow : Own) (w : World) (t : Value) (rows : List ND) (h : Tab k ow w t rows) (s : SQ) (main : Nat) (hm : main < rows.length) :
    Calls Tryd.prog 55 #[t, .agg (seqL s.left s.goal).toArray, .int .i64 5, .int .i64 (main : Int)] w fun e w' => ∃ b, e = .returned (.tuple #[.slice (some ⟨b, 0, none⟩) 1 1, .int .i64 0]) ∧ w.heap.size ≤ b ∧ BoxB w' b (seqL (dropB s.left main) s.goal) 81 ∧ Below w.heap.size w w' := by
  have HB0 := Lib.hid (below_alloc w (.cells (seqL s.left s.goal).toArray 81))
  have HQ0 := Lib.hid (BoxB.new w (seqL s.left s.goal) 81)
  obtain ⟨x, hx⟩ : ∃ n, rowAt rows main = n := ⟨_, rfl⟩
  have HN1 := Lib.hid (rnode_is k ow w t rows h main hm x hx)
  obtain ⟨kd, nm, l, r⟩ := x
  obtain ⟨y, hy⟩ : ∃ n, nodeAt rows l = n := ⟨_, rfl⟩
  have HN2 : Hid (∀ W, Below w.heap.size w W → Calls Tryd.prog 66 #[t, .int .i64 l] W fun e w' => e = .returned (.agg y.cells.toArray) ∧ Below W.heap.size W w') := fun W hb => hy ▸ rnode_any k ow W t rows (h.below hb) l
  obtain ⟨kd2, nm2, l2, r2⟩ := y
  have hmx : main < 1024 := Nat.lt_of_lt_of_le hm h.ok.le
  have HM := Lib.hid hmx
  simp only at HN1
  clear h hx hy hmx hm
  have hsl := seqL_len (dropB s.left main) s.goal
  go_enter Tryd.func55, Tryd.ntmps55
  go_wp2_with (first
    | (go_at_call 66; refine (HN1.out _ HB0.out).mono ?_; rintro e W1 ⟨rfl, hb1⟩; have HB1 := Lib.hid (below_trans HB0.out hb1); have HQ1 := Lib.hid (HQ0.out.below hb1); clear hb1 HN1)
    | (refine wp_storeRow rNode (.tmp 10) (.tmp 21) rfl rfl rfl (ys := (ND.mk kd nm l r).cells) rfl (BoxB.new W1 zeroN.cells 45) rfl rfl (cells_one _) ?_; intro W2 hb2 ho2; have c2 := hb2.cell (i := 2) rfl; have HX2 := Lib.hid hb2; have HB12 := Lib.hid ((below_alloc W1 _).trans (ho2.below (Nat.le_refl _))); have HB2 := Lib.hid (HB1.out.trans (HB12.out.mono HB1.out.size)); have HQ2 := Lib.hid (HQ1.out.below HB12.out); clear hb2 ho2; simp only at c2)
    | (go_at_call 66; refine (HN2.out _ HB2.out).mono ?_; rintro e W3 ⟨rfl, hb3⟩; have HB3 := Lib.hid (below_trans HB2.out hb3); have HQ3 := Lib.hid (HQ2.out.below hb3); have HX3 := Lib.hid (HX2.out.below hb3); clear hb3 c2)
    | (refine wp_storeRow rNode (.tmp 11) (.tmp 25) rfl rfl rfl (ys := (ND.mk kd2 nm2 l2 r2).cells) rfl (BoxB.new W3 zeroN.cells 45) rfl rfl (cells_one _) ?_; intro W4 hb4 ho4; have HY4 := Lib.hid hb4; have HB34 := Lib.hid ((below_alloc W3 _).trans (ho4.below (Nat.le_refl _))); have HB4 := Lib.hid (HB3.out.trans (HB34.out.mono HB3.out.size)); have HQ4 := Lib.hid (HQ3.out.below HB34.out); have HX4 := Lib.hid (HX3.out.below HB34.out); clear hb4 ho4)
    | (refine wp_loadSeq (.tmp 5) rfl rfl rfl HQ4.out ?_)
    | (refine wp_storeSeq (.tmp 12) (.tmp 26) rfl rfl rfl rfl (BoxB.new W4 (seqL 0 0) 81) (seqL_len _ _) ?_; intro W5 hb5 ho5; have HR5 := Lib.hid hb5; have HB45 := Lib.hid ((below_alloc W4 _).trans (ho5.below (Nat.le_refl _))); have HB5 := Lib.hid (HB4.out.trans (HB45.out.mono HB4.out.size)); have HQ5 := Lib.hid (HQ4.out.below HB45.out); have HX5 := Lib.hid (HX4.out.below HB45.out); have HY5 := Lib.hid (HY4.out.below HB45.out); have HZ4 := Lib.hid HB4.out.size; have HZ5 := Lib.hid HB45.out.size; clear hb5 ho5)
    | (refine wp_loadLeft (.tmp 27) rfl rfl rfl HQ5.out ?_)
    | (go_at_call 71; refine (drop_any W5 s.left main HM.out).mono ?_; rintro e W6 ⟨rfl, hb6⟩; have HB6 := Lib.hid (HB5.out.trans (hb6.mono HB5.out.size)); have HR6 := Lib.hid (HR5.out.below hb6); have HX6 := Lib.hid (HX5.out.below hb6); have HY6 := Lib.hid (HY5.out.below hb6); clear hb6)
    | (refine wp_storeLeft (.tmp 31) (.tmp 30) rfl rfl rfl rfl HR6.out ?_; intro W7 hb7 ho7; have HR7 := Lib.hid hb7; have HB7 := Lib.hid (HB6.out.trans (ho7.below HZ4.out)); clear hb7 ho7)
    | (refine wp_loadSeq (.tmp 12) rfl rfl rfl HR7.out ?_))
  rw [fold_seq]
  exact bodyPost_ret (v := .tuple #[.slice (some ⟨W7.heap.size, 0, none⟩) 1 1, .int .i64 0]) (by simp [results, Tryd.results55, go_sem]) rfl ⟨W7.heap.size, rfl, HB7.out.size, BoxB.new W7 _ _, below_trans HB7.out (below_alloc _ _)⟩
end Go.Dk
end

section
namespace Go.Dk
open Go.RowKit Go.Maps Go.MapKept
open Go.Proofs hiding intOf
set_option maxRecDepth 100000 in
set_option maxHeartbeats 2000000 in
theorem prem4_any (k : Nat) (ow : Own) (w : World) (t : Value) (rows : List ND) (h : Tab k ow w t rows) (s : SQ) (main : Nat) (hm : main < rows.length) (kd : Int) (nm : ByteArray) (l : Int) (r : Nat) (hx : rowAt rows main = ⟨kd, nm, l, (r : Int)⟩) (hr : r < 1024) :
    Calls Tryd.prog 55 #[t, .agg (seqL s.left s.goal).toArray, .int .i64 4, .int .i64 (main : Int)] w fun e w' => ∃ b, e = .returned (.tuple #[.slice (some ⟨b, 0, none⟩) 1 1, .int .i64 0]) ∧ w.heap.size ≤ b ∧ BoxB w' b (seqL (withB (dropB s.left main) r) s.goal) 81 ∧ Below w.heap.size w w' := by
  have HB0 := Lib.hid (below_alloc w (.cells (seqL s.left s.goal).toArray 81))
  have HQ0 := Lib.hid (BoxB.new w (seqL s.left s.goal) 81)
  have HN1 := Lib.hid (rnode_is k ow w t rows h main hm _ hx)
  have HR := Lib.hid hr
  clear hr
  obtain ⟨y, hy⟩ : ∃ n, nodeAt rows l = n := ⟨_, rfl⟩
  have HN2 : Hid (∀ W, Below w.heap.size w W → Calls Tryd.prog 66 #[t, .int .i64 l] W fun e w' => e = .returned (.agg y.cells.toArray) ∧ Below W.heap.size W w') := fun W hb => hy ▸ rnode_any k ow W t rows (h.below hb) l
  obtain ⟨kd2, nm2, l2, r2⟩ := y
  have hmx : main < 1024 := Nat.lt_of_lt_of_le hm h.ok.le
  have HM := Lib.hid hmx
  simp only at HN1
  clear h hx hy hmx hm
  go_enter Tryd.func55, Tryd.ntmps55
  go_wp2_with (first
    | (go_at_call 66; refine (HN1.out _ HB0.out).mono ?_; rintro e W1 ⟨rfl, hb1⟩; have HB1 := Lib.hid (below_trans HB0.out hb1); have HQ1 := Lib.hid (HQ0.out.below hb1); clear hb1 HN1)
    | (refine wp_storeRow rNode (.tmp 10) (.tmp 21) rfl rfl rfl (ys := (ND.mk kd nm l (r : Int)).cells) rfl (BoxB.new W1 zeroN.cells 45) rfl rfl (cells_one _) ?_; intro W2 hb2 ho2; have c2 := hb2.cell (i := 2) rfl; have HX2 := Lib.hid hb2; have HB12 := Lib.hid ((below_alloc W1 _).trans (ho2.below (Nat.le_refl _))); have HB2 := Lib.hid (HB1.out.trans (HB12.out.mono HB1.out.size)); have HQ2 := Lib.hid (HQ1.out.below HB12.out); clear hb2 ho2; simp only at c2)
    | (go_at_call 66; refine (HN2.out _ HB2.out).mono ?_; rintro e W3 ⟨rfl, hb3⟩; have HB3 := Lib.hid (below_trans HB2.out hb3); have HQ3 := Lib.hid (HQ2.out.below hb3); have HX3 := Lib.hid (HX2.out.below hb3); clear hb3 c2)
    | (refine wp_storeRow rNode (.tmp 11) (.tmp 25) rfl rfl rfl (ys := (ND.mk kd2 nm2 l2 r2).cells) rfl (BoxB.new W3 zeroN.cells 45) rfl rfl (cells_one _) ?_; intro W4 hb4 ho4; have HY4 := Lib.hid hb4; have HB34 := Lib.hid ((below_alloc W3 _).trans (ho4.below (Nat.le_refl _))); have HB4 := Lib.hid (HB3.out.trans (HB34.out.mono HB3.out.size)); have HQ4 := Lib.hid (HQ3.out.below HB34.out); have HX4 := Lib.hid (HX3.out.below HB34.out); clear hb4 ho4)
    | (refine wp_loadSeq (.tmp 5) rfl rfl rfl HQ4.out ?_)
    | (refine wp_storeSeq (.tmp 12) (.tmp 26) rfl rfl rfl rfl (BoxB.new W4 (seqL 0 0) 81) (seqL_len _ _) ?_; intro W5 hb5 ho5; have HR5 := Lib.hid hb5; have HB45 := Lib.hid ((below_alloc W4 _).trans (ho5.below (Nat.le_refl _))); have HB5 := Lib.hid (HB4.out.trans (HB45.out.mono HB4.out.size)); have HQ5 := Lib.hid (HQ4.out.below HB45.out); have HX5 := Lib.hid (HX4.out.below HB45.out); have HY5 := Lib.hid (HY4.out.below HB45.out); have HZ4 := Lib.hid HB4.out.size; have HZ5 := Lib.hid HB45.out.size; clear hb5 ho5)
    | (refine wp_loadLeft (.tmp 27) rfl rfl rfl HQ5.out ?_)
    | (go_at_call 71; refine (drop_any W5 s.left main HM.out).mono ?_; rintro e W6 ⟨rfl, hb6⟩; have HB6 := Lib.hid (HB5.out.trans (hb6.mono HB5.out.size)); have HR6 := Lib.hid (HR5.out.below hb6); have HX6 := Lib.hid (HX5.out.below hb6); have HY6 := Lib.hid (HY5.out.below hb6); clear hb6)
    | (refine wp_storeLeft (.tmp 31) (.tmp 30) rfl rfl rfl rfl HR6.out ?_; intro W7 hb7 ho7; have HR7 := Lib.hid hb7; have HX7 := Lib.hid (HX6.out.only ho7 (Nat.ne_of_lt HX4.out.lt)); have c7 := HX7.out.cell (i := 3) rfl; have HB7 := Lib.hid (HB6.out.trans (ho7.below HZ4.out)); clear hb7 ho7; simp only at c7)
    | (refine wp_loadSeq (.tmp 12) rfl rfl rfl HR7.out ?_)
    | (go_at_call 72; refine (with_any (W7.alloc (.cells #[.int .i64 (r : Int)] 3)) (dropB s.left main) s.goal W7.heap.size 0 1 [r] (by simp) (by simpa using HR.out) (fun j hj => by simp at hj; subst hj; exact World.cell?_alloc_at _ _ _ _ rfl)).mono ?_; rintro e W9 ⟨rfl, hb9⟩; rw [maskOf_one]; have HB9 := Lib.hid ((below_trans HB7.out (below_alloc _ _)).trans (hb9.mono (below_trans HB7.out (below_alloc _ _)).size)); have hsl := seqL_len (dropB s.left main ||| 1 <<< r) s.goal; clear hb9))
  rw [fold_seq]
  exact bodyPost_ret (v := .tuple #[.slice (some ⟨W9.heap.size, 0, none⟩) 1 1, .int .i64 0]) (by simp [results, Tryd.results55, go_sem]) rfl ⟨W9.heap.size, rfl, HB9.out.size, BoxB.new W9 _ _, below_trans HB9.out (below_alloc _ _)⟩
theorem two_cells (W : World) (l r : Nat) : ∀ j (h : j < [l, r].length), (W.alloc (.cells #[.int .i64 (l : Int), .int .i64 (r : Int)] 3)).cell? ⟨W.heap.size, 0 + j, none⟩ = some (.int .i64 (([l, r][j] : Nat) : Int)) := fun j hj => by
  match j, hj with
  | 0, _ => exact World.cell?_alloc_at _ _ _ _ rfl
  | 1, _ => exact World.cell?_alloc_at _ _ _ _ rfl
  | j + 2, hj => exact absurd hj (by simp)
theorem mask_two (m a b : Nat) : m ||| maskOf [a, b] = withB (withB m a) b := by
  simp [maskOf, withB, Nat.or_assoc]
set_option maxRecDepth 100000 in
set_option maxHeartbeats 2000000 in
theorem prem3_any (k : Nat) (ow : Own) (w : World) (t : Value) (rows : List ND) (h : Tab k ow w t rows) (s : SQ) (main : Nat) (hm : main < rows.length) (kd : Int) (nm : ByteArray) (l r : Nat) (hx : rowAt rows main = ⟨kd, nm, (l : Int), (r : Int)⟩) (hl : l < 1024) (hr : r < 1024) :
    Calls Tryd.prog 55 #[t, .agg (seqL s.left s.goal).toArray, .int .i64 3, .int .i64 (main : Int)] w fun e w' => ∃ b, e = .returned (.tuple #[.slice (some ⟨b, 0, none⟩) 1 1, .int .i64 0]) ∧ w.heap.size ≤ b ∧ BoxB w' b (seqL (withB (withB (dropB s.left main) l) r) s.goal) 81 ∧ Below w.heap.size w w' := by
  have HB0 := Lib.hid (below_alloc w (.cells (seqL s.left s.goal).toArray 81))
  have HQ0 := Lib.hid (BoxB.new w (seqL s.left s.goal) 81)
  have HN1 := Lib.hid (rnode_is k ow w t rows h main hm _ hx)
  have HR := Lib.hid hr
  have HLR : Hid (∀ n ∈ [l, r], n < 1024) := fun n hn => by
    simp at hn
    rcases hn with rfl | rfl
    · exact hl
    · exact hr
  clear hr hl
  obtain ⟨y, hy⟩ : ∃ n, nodeAt rows (l : Int) = n := ⟨_, rfl⟩
  have HN2 : Hid (∀ W, Below w.heap.size w W → Calls Tryd.prog 66 #[t, .int .i64 (l : Int)] W fun e w' => e = .returned (.agg y.cells.toArray) ∧ Below W.heap.size W w') := fun W hb => hy ▸ rnode_any k ow W t rows (h.below hb) (l : Int)
  obtain ⟨kd2, nm2, l2, r2⟩ := y
  have hmx : main < 1024 := Nat.lt_of_lt_of_le hm h.ok.le
  have HM := Lib.hid hmx
  simp only at HN1
  clear h hx hy hmx hm
  go_enter Tryd.func55, Tryd.ntmps55
  go_wp2_with (first
    | (go_at_call 66; refine (HN1.out _ HB0.out).mono ?_; rintro e W1 ⟨rfl, hb1⟩; have HB1 := Lib.hid (below_trans HB0.out hb1); have HQ1 := Lib.hid (HQ0.out.below hb1); clear hb1 HN1)
    | (refine wp_storeRow rNode (.tmp 10) (.tmp 21) rfl rfl rfl (ys := (ND.mk kd nm (l : Int) (r : Int)).cells) rfl (BoxB.new W1 zeroN.cells 45) rfl rfl (cells_one _) ?_; intro W2 hb2 ho2; have c2 := hb2.cell (i := 2) rfl; have HX2 := Lib.hid hb2; have HB12 := Lib.hid ((below_alloc W1 _).trans (ho2.below (Nat.le_refl _))); have HB2 := Lib.hid (HB1.out.trans (HB12.out.mono HB1.out.size)); have HQ2 := Lib.hid (HQ1.out.below HB12.out); clear hb2 ho2; simp only at c2)
    | (go_at_call 66; refine (HN2.out _ HB2.out).mono ?_; rintro e W3 ⟨rfl, hb3⟩; have HB3 := Lib.hid (below_trans HB2.out hb3); have HQ3 := Lib.hid (HQ2.out.below hb3); have HX3 := Lib.hid (HX2.out.below hb3); clear hb3 c2)
    | (refine wp_storeRow rNode (.tmp 11) (.tmp 25) rfl rfl rfl (ys := (ND.mk kd2 nm2 l2 r2).cells) rfl (BoxB.new W3 zeroN.cells 45) rfl rfl (cells_one _) ?_; intro W4 hb4 ho4; have HY4 := Lib.hid hb4; have HB34 := Lib.hid ((below_alloc W3 _).trans (ho4.below (Nat.le_refl _))); have HB4 := Lib.hid (HB3.out.trans (HB34.out.mono HB3.out.size)); have HQ4 := Lib.hid (HQ3.out.below HB34.out); have HX4 := Lib.hid (HX3.out.below HB34.out); clear hb4 ho4)
    | (refine wp_loadSeq (.tmp 5) rfl rfl rfl HQ4.out ?_)
    | (refine wp_storeSeq (.tmp 12) (.tmp 26) rfl rfl rfl rfl (BoxB.new W4 (seqL 0 0) 81) (seqL_len _ _) ?_; intro W5 hb5 ho5; have HR5 := Lib.hid hb5; have HB45 := Lib.hid ((below_alloc W4 _).trans (ho5.below (Nat.le_refl _))); have HB5 := Lib.hid (HB4.out.trans (HB45.out.mono HB4.out.size)); have HQ5 := Lib.hid (HQ4.out.below HB45.out); have HX5 := Lib.hid (HX4.out.below HB45.out); have HY5 := Lib.hid (HY4.out.below HB45.out); have HZ4 := Lib.hid HB4.out.size; have HZ5 := Lib.hid HB45.out.size; clear hb5 ho5)
    | (refine wp_loadLeft (.tmp 27) rfl rfl rfl HQ5.out ?_)
    | (go_at_call 71; refine (drop_any W5 s.left main HM.out).mono ?_; rintro e W6 ⟨rfl, hb6⟩; have HB6 := Lib.hid (HB5.out.trans (hb6.mono HB5.out.size)); have HR6 := Lib.hid (HR5.out.below hb6); have HX6 := Lib.hid (HX5.out.below hb6); have HY6 := Lib.hid (HY5.out.below hb6); clear hb6)
    | (refine wp_storeLeft (.tmp 31) (.tmp 30) rfl rfl rfl rfl HR6.out ?_; intro W7 hb7 ho7; have HR7 := Lib.hid hb7; have HX7 := Lib.hid (HX6.out.only ho7 (Nat.ne_of_lt HX4.out.lt)); have c7 := HX7.out.cell (i := 3) rfl; have c6 := HX7.out.cell (i := 2) rfl; have HB7 := Lib.hid (HB6.out.trans (ho7.below HZ4.out)); clear hb7 ho7; simp only at c7 c6)
    | (refine wp_loadSeq (.tmp 12) rfl rfl rfl HR7.out ?_)
    | (go_at_call 72; refine (with_any (W7.alloc (.cells #[.int .i64 (l : Int), .int .i64 (r : Int)] 3)) (dropB s.left main) s.goal W7.heap.size 0 2 [l, r] (by simp) (HLR.out) (two_cells W7 l r)).mono ?_; rintro e W9 ⟨rfl, hb9⟩; rw [mask_two]; have HB9 := Lib.hid ((below_trans HB7.out (below_alloc _ _)).trans (hb9.mono (below_trans HB7.out (below_alloc _ _)).size)); have hsl := seqL_len (withB (withB (dropB s.left main) l) r) s.goal; clear hb9))
  rw [fold_seq]
  exact bodyPost_ret (v := .tuple #[.slice (some ⟨W9.heap.size, 0, none⟩) 1 1, .int .i64 0]) (by simp [results, Tryd.results55, go_sem]) rfl ⟨W9.heap.size, rfl, HB9.out.size, BoxB.new W9 _ _, below_trans HB9.out (below_alloc _ _)⟩
end Go.Dk
end
