/- Parts of the proof: Kz. -/
import Derived.Test.YthhokkfcdbcllaaDoorN01
import Derived.Test.YthhokkfcdbcllaaDoorN02
import Derived.Test.YthhokkfcdbcllaaDoorN03
import Derived.Test.YthhokkfcdbcllaaDoorN04
import Derived.Test.YthhokkfcdbcllaaDoorN05
import Derived.Test.YthhokkfcdbcllaaDoorN06
import Derived.Test.YthhokkfcdbcllaaDoorN07
import Derived.Test.YthhokkfcdbcllaaDoorN08
section
namespace Go.Dk
open Go.RowKit Go.Maps Go.MapKept
open Go.Proofs hiding intOf
theorem seq_cells {W' : World} {b m : Nat} {g : Int} {T : TypeId} (h : BoxB W' b (seqL m g) T) : W'.cell? ⟨b, 0, none⟩ = some (.int .u64 (wd m 0 : Int)) ∧ W'.cell? ⟨b, 1, none⟩ = some (.int .u64 (wd m 1 : Int)) ∧ W'.cell? ⟨b, 2, none⟩ = some (.int .u64 (wd m 2 : Int)) ∧ W'.cell? ⟨b, 3, none⟩ = some (.int .u64 (wd m 3 : Int)) ∧ W'.cell? ⟨b, 4, none⟩ = some (.int .u64 (wd m 4 : Int)) ∧ W'.cell? ⟨b, 5, none⟩ = some (.int .u64 (wd m 5 : Int)) ∧ W'.cell? ⟨b, 6, none⟩ = some (.int .u64 (wd m 6 : Int)) ∧ W'.cell? ⟨b, 7, none⟩ = some (.int .u64 (wd m 7 : Int)) ∧ W'.cell? ⟨b, 8, none⟩ = some (.int .u64 (wd m 8 : Int)) ∧ W'.cell? ⟨b, 9, none⟩ = some (.int .u64 (wd m 9 : Int)) ∧ W'.cell? ⟨b, 10, none⟩ = some (.int .u64 (wd m 10 : Int)) ∧ W'.cell? ⟨b, 11, none⟩ = some (.int .u64 (wd m 11 : Int)) ∧ W'.cell? ⟨b, 12, none⟩ = some (.int .u64 (wd m 12 : Int)) ∧ W'.cell? ⟨b, 13, none⟩ = some (.int .u64 (wd m 13 : Int)) ∧ W'.cell? ⟨b, 14, none⟩ = some (.int .u64 (wd m 14 : Int)) ∧ W'.cell? ⟨b, 15, none⟩ = some (.int .u64 (wd m 15 : Int)) ∧ W'.cell? ⟨b, 16, none⟩ = some (.int .i64 g) := by
  refine ⟨?_, ?_, ?_, ?_, ?_, ?_, ?_, ?_, ?_, ?_, ?_, ?_, ?_, ?_, ?_, ?_, ?_⟩
  all_goals exact h.cell rfl
set_option maxRecDepth 100000 in
set_option maxHeartbeats 2000000 in
theorem prem11_any (k : Nat) (ow : Own) (w : World) (t : Value) (rows : List ND) (h : Tab k ow w t rows) (s : SQ) (main : Nat) (hm : main < rows.length) (kd : Int) (nm : ByteArray) (l r : Nat) (hx : rowAt rows main = ⟨kd, nm, (l : Int), (r : Int)⟩) (hl : l < 1024) (hr : r < 1024) :
    Calls Tryd.prog 55 #[t, .agg (seqL s.left s.goal).toArray, .int .i64 11, .int .i64 (main : Int)] w fun e w' => ∃ b, e = .returned (.tuple #[.slice (some ⟨b, 0, none⟩) 1 1, .int .i64 0]) ∧ w.heap.size ≤ b ∧ BoxB w' b (seqL s.left (l : Int)) 81 ∧ Below w.heap.size w w' := by
  have HB0 := Lib.hid (below_alloc w (.cells (seqL s.left s.goal).toArray 81))
  have HQ0 := Lib.hid (BoxB.new w (seqL s.left s.goal) 81)
  have HN1 := Lib.hid (rnode_is k ow w t rows h main hm _ hx)
  have HL := Lib.hid hl
  have HR := Lib.hid hr
  clear hr hl
  obtain ⟨y, hy⟩ : ∃ n, nodeAt rows (l : Int) = n := ⟨_, rfl⟩
  have HN2 : Hid (∀ W, Below w.heap.size w W → Calls Tryd.prog 66 #[t, .int .i64 (l : Int)] W fun e w' => e = .returned (.agg y.cells.toArray) ∧ Below W.heap.size W w') := fun W hb => hy ▸ rnode_any k ow W t rows (h.below hb) (l : Int)
  obtain ⟨kd2, nm2, l2, r2⟩ := y
  have hmx : main < 1024 := Nat.lt_of_lt_of_le hm h.ok.le
  have HM := Lib.hid hmx
  simp only at HN1
  clear h hx hy hmx hm
  go_enter Tryd.func55, Tryd.ntmps55
  go_wp2_with (first
    | (go_at_call 66; refine (HN1.out _ HB0.out).mono ?_; rintro e W1 ⟨rfl, hb1⟩; have HB1 := Lib.hid (below_trans HB0.out hb1); have HQ1 := Lib.hid (HQ0.out.below hb1); clear hb1 HN1)
    | (refine wp_storeRow rNode (.tmp 10) (.tmp 21) rfl rfl rfl (ys := (ND.mk kd nm (l : Int) (r : Int)).cells) rfl (BoxB.new W1 zeroN.cells 45) rfl rfl (cells_one _) ?_; intro W2 hb2 ho2; have c2 := hb2.cell (i := 2) rfl; have HX2 := Lib.hid hb2; have HB12 := Lib.hid ((below_alloc W1 _).trans (ho2.below (Nat.le_refl _))); have HB2 := Lib.hid (HB1.out.trans (HB12.out.mono HB1.out.size)); have HQ2 := Lib.hid (HQ1.out.below HB12.out); clear hb2 ho2; simp only at c2)
    | (go_at_call 66; refine (HN2.out _ HB2.out).mono ?_; rintro e W3 ⟨rfl, hb3⟩; have HB3 := Lib.hid (below_trans HB2.out hb3); have HQ3 := Lib.hid (HQ2.out.below hb3); have HX3 := Lib.hid (HX2.out.below hb3); clear hb3 c2)
    | (refine wp_storeRow rNode (.tmp 11) (.tmp 25) rfl rfl rfl (ys := (ND.mk kd2 nm2 l2 r2).cells) rfl (BoxB.new W3 zeroN.cells 45) rfl rfl (cells_one _) ?_; intro W4 hb4 ho4; have HY4 := Lib.hid hb4; have HB34 := Lib.hid ((below_alloc W3 _).trans (ho4.below (Nat.le_refl _))); have HB4 := Lib.hid (HB3.out.trans (HB34.out.mono HB3.out.size)); have HQ4 := Lib.hid (HQ3.out.below HB34.out); have HX4 := Lib.hid (HX3.out.below HB34.out); clear hb4 ho4)
    | (refine wp_loadSeq (.tmp 5) rfl rfl rfl HQ4.out ?_)
    | (refine wp_storeSeq (.tmp 12) (.tmp 26) rfl rfl rfl rfl (BoxB.new W4 (seqL 0 0) 81) (seqL_len _ _) ?_; intro W5 hb5 ho5; have HR5 := Lib.hid hb5; have HB45 := Lib.hid ((below_alloc W4 _).trans (ho5.below (Nat.le_refl _))); have HB5 := Lib.hid (HB4.out.trans (HB45.out.mono HB4.out.size)); have HQ5 := Lib.hid (HQ4.out.below HB45.out); have HX5 := Lib.hid (HX4.out.below HB45.out); have HY5 := Lib.hid (HY4.out.below HB45.out); have HZ4 := Lib.hid HB4.out.size; have HZ5 := Lib.hid HB45.out.size; clear hb5 ho5)
    | (refine wp_loadLeft (.tmp 27) rfl rfl rfl HQ5.out ?_)
    | (go_at_call 71; refine (drop_any W5 s.left main HM.out).mono ?_; rintro e W6 ⟨rfl, hb6⟩; have HB6 := Lib.hid (HB5.out.trans (hb6.mono HB5.out.size)); have HR6 := Lib.hid (HR5.out.below hb6); have HQ6 := Lib.hid (HQ5.out.below hb6); have HX6 := Lib.hid (HX5.out.below hb6); have HY6 := Lib.hid (HY5.out.below hb6); clear hb6)
    | (refine wp_storeLeft (.tmp 31) (.tmp 30) rfl rfl rfl rfl HR6.out ?_; intro W7 hb7 ho7; have HR7 := Lib.hid hb7; have HX7 := Lib.hid (HX6.out.only ho7 (Nat.ne_of_lt HX4.out.lt)); have HQ7 := Lib.hid (HQ6.out.only ho7 (Nat.ne_of_lt HQ4.out.lt)); have c7 := HX7.out.cell (i := 3) rfl; have c6 := HX7.out.cell (i := 2) rfl; have HB7 := Lib.hid (HB6.out.trans (ho7.below HZ4.out)); clear hb7 ho7; simp only at c7 c6)
    | (refine wp_loadSeq (.tmp 5) rfl rfl rfl HQ7.out ?_)
    | (go_at_call 76; refine (to_any W7 s.left s.goal (l : Int)).mono ?_; rintro e W9 ⟨rfl, hb9⟩; have HB9 := Lib.hid (below_trans HB7.out hb9); have hsl := seqL_len s.left (l : Int); clear hb9))
  rw [fold_seq]
  exact bodyPost_ret (v := .tuple #[.slice (some ⟨W9.heap.size, 0, none⟩) 1 1, .int .i64 0]) (by simp [results, Tryd.results55, go_sem]) rfl ⟨W9.heap.size, rfl, HB9.out.size, BoxB.new W9 _ _, below_trans HB9.out (below_alloc _ _)⟩
set_option maxRecDepth 100000 in
set_option maxHeartbeats 2000000 in
theorem prem12_any (k : Nat) (ow : Own) (w : World) (t : Value) (rows : List ND) (h : Tab k ow w t rows) (s : SQ) (main : Nat) (hm : main < rows.length) (kd : Int) (nm : ByteArray) (l r : Nat) (hx : rowAt rows main = ⟨kd, nm, (l : Int), (r : Int)⟩) (hl : l < 1024) (hr : r < 1024) :
    Calls Tryd.prog 55 #[t, .agg (seqL s.left s.goal).toArray, .int .i64 12, .int .i64 (main : Int)] w fun e w' => ∃ b, e = .returned (.tuple #[.slice (some ⟨b, 0, none⟩) 1 1, .int .i64 0]) ∧ w.heap.size ≤ b ∧ BoxB w' b (seqL s.left (r : Int)) 81 ∧ Below w.heap.size w w' := by
  have HB0 := Lib.hid (below_alloc w (.cells (seqL s.left s.goal).toArray 81))
  have HQ0 := Lib.hid (BoxB.new w (seqL s.left s.goal) 81)
  have HN1 := Lib.hid (rnode_is k ow w t rows h main hm _ hx)
  have HL := Lib.hid hl
  have HR := Lib.hid hr
  clear hr hl
  obtain ⟨y, hy⟩ : ∃ n, nodeAt rows (l : Int) = n := ⟨_, rfl⟩
  have HN2 : Hid (∀ W, Below w.heap.size w W → Calls Tryd.prog 66 #[t, .int .i64 (l : Int)] W fun e w' => e = .returned (.agg y.cells.toArray) ∧ Below W.heap.size W w') := fun W hb => hy ▸ rnode_any k ow W t rows (h.below hb) (l : Int)
  obtain ⟨kd2, nm2, l2, r2⟩ := y
  have hmx : main < 1024 := Nat.lt_of_lt_of_le hm h.ok.le
  have HM := Lib.hid hmx
  simp only at HN1
  clear h hx hy hmx hm
  go_enter Tryd.func55, Tryd.ntmps55
  go_wp2_with (first
    | (go_at_call 66; refine (HN1.out _ HB0.out).mono ?_; rintro e W1 ⟨rfl, hb1⟩; have HB1 := Lib.hid (below_trans HB0.out hb1); have HQ1 := Lib.hid (HQ0.out.below hb1); clear hb1 HN1)
    | (refine wp_storeRow rNode (.tmp 10) (.tmp 21) rfl rfl rfl (ys := (ND.mk kd nm (l : Int) (r : Int)).cells) rfl (BoxB.new W1 zeroN.cells 45) rfl rfl (cells_one _) ?_; intro W2 hb2 ho2; have c2 := hb2.cell (i := 2) rfl; have HX2 := Lib.hid hb2; have HB12 := Lib.hid ((below_alloc W1 _).trans (ho2.below (Nat.le_refl _))); have HB2 := Lib.hid (HB1.out.trans (HB12.out.mono HB1.out.size)); have HQ2 := Lib.hid (HQ1.out.below HB12.out); clear hb2 ho2; simp only at c2)
    | (go_at_call 66; refine (HN2.out _ HB2.out).mono ?_; rintro e W3 ⟨rfl, hb3⟩; have HB3 := Lib.hid (below_trans HB2.out hb3); have HQ3 := Lib.hid (HQ2.out.below hb3); have HX3 := Lib.hid (HX2.out.below hb3); clear hb3 c2)
    | (refine wp_storeRow rNode (.tmp 11) (.tmp 25) rfl rfl rfl (ys := (ND.mk kd2 nm2 l2 r2).cells) rfl (BoxB.new W3 zeroN.cells 45) rfl rfl (cells_one _) ?_; intro W4 hb4 ho4; have HY4 := Lib.hid hb4; have HB34 := Lib.hid ((below_alloc W3 _).trans (ho4.below (Nat.le_refl _))); have HB4 := Lib.hid (HB3.out.trans (HB34.out.mono HB3.out.size)); have HQ4 := Lib.hid (HQ3.out.below HB34.out); have HX4 := Lib.hid (HX3.out.below HB34.out); clear hb4 ho4)
    | (refine wp_loadSeq (.tmp 5) rfl rfl rfl HQ4.out ?_)
    | (refine wp_storeSeq (.tmp 12) (.tmp 26) rfl rfl rfl rfl (BoxB.new W4 (seqL 0 0) 81) (seqL_len _ _) ?_; intro W5 hb5 ho5; have HR5 := Lib.hid hb5; have HB45 := Lib.hid ((below_alloc W4 _).trans (ho5.below (Nat.le_refl _))); have HB5 := Lib.hid (HB4.out.trans (HB45.out.mono HB4.out.size)); have HQ5 := Lib.hid (HQ4.out.below HB45.out); have HX5 := Lib.hid (HX4.out.below HB45.out); have HY5 := Lib.hid (HY4.out.below HB45.out); have HZ4 := Lib.hid HB4.out.size; have HZ5 := Lib.hid HB45.out.size; clear hb5 ho5)
    | (refine wp_loadLeft (.tmp 27) rfl rfl rfl HQ5.out ?_)
    | (go_at_call 71; refine (drop_any W5 s.left main HM.out).mono ?_; rintro e W6 ⟨rfl, hb6⟩; have HB6 := Lib.hid (HB5.out.trans (hb6.mono HB5.out.size)); have HR6 := Lib.hid (HR5.out.below hb6); have HQ6 := Lib.hid (HQ5.out.below hb6); have HX6 := Lib.hid (HX5.out.below hb6); have HY6 := Lib.hid (HY5.out.below hb6); clear hb6)
    | (refine wp_storeLeft (.tmp 31) (.tmp 30) rfl rfl rfl rfl HR6.out ?_; intro W7 hb7 ho7; have HR7 := Lib.hid hb7; have HX7 := Lib.hid (HX6.out.only ho7 (Nat.ne_of_lt HX4.out.lt)); have HQ7 := Lib.hid (HQ6.out.only ho7 (Nat.ne_of_lt HQ4.out.lt)); have c7 := HX7.out.cell (i := 3) rfl; have c6 := HX7.out.cell (i := 2) rfl; have HB7 := Lib.hid (HB6.out.trans (ho7.below HZ4.out)); clear hb7 ho7; simp only at c7 c6)
    | (refine wp_loadSeq (.tmp 5) rfl rfl rfl HQ7.out ?_)
    | (go_at_call 76; refine (to_any W7 s.left s.goal (r : Int)).mono ?_; rintro e W9 ⟨rfl, hb9⟩; have HB9 := Lib.hid (below_trans HB7.out hb9); have hsl := seqL_len s.left (r : Int); clear hb9))
  rw [fold_seq]
  exact bodyPost_ret (v := .tuple #[.slice (some ⟨W9.heap.size, 0, none⟩) 1 1, .int .i64 0]) (by simp [results, Tryd.results55, go_sem]) rfl ⟨W9.heap.size, rfl, HB9.out.size, BoxB.new W9 _ _, below_trans HB9.out (below_alloc _ _)⟩
set_option maxRecDepth 100000 in
set_option maxHeartbeats 2000000 in
theorem prem8_any (k : Nat) (ow : Own) (w : World) (t : Value) (rows : List ND) (h : Tab k ow w t rows) (s : SQ) (main : Nat) (hm : main < rows.length) (kd : Int) (nm : ByteArray) (l r : Nat) (hx : rowAt rows main = ⟨kd, nm, (l : Int), (r : Int)⟩) (hl : l < 1024) (hr : r < 1024) :
    Calls Tryd.prog 55 #[t, .agg (seqL s.left s.goal).toArray, .int .i64 8, .int .i64 (main : Int)] w fun e w' => ∃ b, e = .returned (.tuple #[.slice (some ⟨b, 0, none⟩) 1 1, .int .i64 0]) ∧ w.heap.size ≤ b ∧ BoxB w' b (seqL (withB s.left l) (r : Int)) 81 ∧ Below w.heap.size w w' := by
  have HB0 := Lib.hid (below_alloc w (.cells (seqL s.left s.goal).toArray 81))
  have HQ0 := Lib.hid (BoxB.new w (seqL s.left s.goal) 81)
  have HN1 := Lib.hid (rnode_is k ow w t rows h main hm _ hx)
  have HL := Lib.hid hl
  have HR := Lib.hid hr
  clear hr hl
  obtain ⟨y, hy⟩ : ∃ n, nodeAt rows (l : Int) = n := ⟨_, rfl⟩
  have HN2 : Hid (∀ W, Below w.heap.size w W → Calls Tryd.prog 66 #[t, .int .i64 (l : Int)] W fun e w' => e = .returned (.agg y.cells.toArray) ∧ Below W.heap.size W w') := fun W hb => hy ▸ rnode_any k ow W t rows (h.below hb) (l : Int)
  obtain ⟨kd2, nm2, l2, r2⟩ := y
  have hmx : main < 1024 := Nat.lt_of_lt_of_le hm h.ok.le
  have HM := Lib.hid hmx
  simp only at HN1
  clear h hx hy hmx hm
  go_enter Tryd.func55, Tryd.ntmps55
  go_wp2_with (first
    | (go_at_call 66; refine (HN1.out _ HB0.out).mono ?_; rintro e W1 ⟨rfl, hb1⟩; have HB1 := Lib.hid (below_trans HB0.out hb1); have HQ1 := Lib.hid (HQ0.out.below hb1); clear hb1 HN1)
    | (refine wp_storeRow rNode (.tmp 10) (.tmp 21) rfl rfl rfl (ys := (ND.mk kd nm (l : Int) (r : Int)).cells) rfl (BoxB.new W1 zeroN.cells 45) rfl rfl (cells_one _) ?_; intro W2 hb2 ho2; have c2 := hb2.cell (i := 2) rfl; have HX2 := Lib.hid hb2; have HB12 := Lib.hid ((below_alloc W1 _).trans (ho2.below (Nat.le_refl _))); have HB2 := Lib.hid (HB1.out.trans (HB12.out.mono HB1.out.size)); have HQ2 := Lib.hid (HQ1.out.below HB12.out); clear hb2 ho2; simp only at c2)
    | (go_at_call 66; refine (HN2.out _ HB2.out).mono ?_; rintro e W3 ⟨rfl, hb3⟩; have HB3 := Lib.hid (below_trans HB2.out hb3); have HQ3 := Lib.hid (HQ2.out.below hb3); have HX3 := Lib.hid (HX2.out.below hb3); clear hb3 c2)
    | (refine wp_storeRow rNode (.tmp 11) (.tmp 25) rfl rfl rfl (ys := (ND.mk kd2 nm2 l2 r2).cells) rfl (BoxB.new W3 zeroN.cells 45) rfl rfl (cells_one _) ?_; intro W4 hb4 ho4; have HY4 := Lib.hid hb4; have HB34 := Lib.hid ((below_alloc W3 _).trans (ho4.below (Nat.le_refl _))); have HB4 := Lib.hid (HB3.out.trans (HB34.out.mono HB3.out.size)); have HQ4 := Lib.hid (HQ3.out.below HB34.out); have HX4 := Lib.hid (HX3.out.below HB34.out); clear hb4 ho4)
    | (refine wp_loadSeq (.tmp 5) rfl rfl rfl HQ4.out ?_)
    | (refine wp_storeSeq (.tmp 12) (.tmp 26) rfl rfl rfl rfl (BoxB.new W4 (seqL 0 0) 81) (seqL_len _ _) ?_; intro W5 hb5 ho5; have HR5 := Lib.hid hb5; have HB45 := Lib.hid ((below_alloc W4 _).trans (ho5.below (Nat.le_refl _))); have HB5 := Lib.hid (HB4.out.trans (HB45.out.mono HB4.out.size)); have HQ5 := Lib.hid (HQ4.out.below HB45.out); have HX5 := Lib.hid (HX4.out.below HB45.out); have HY5 := Lib.hid (HY4.out.below HB45.out); have HZ4 := Lib.hid HB4.out.size; have HZ5 := Lib.hid HB45.out.size; clear hb5 ho5)
    | (refine wp_loadLeft (.tmp 27) rfl rfl rfl HQ5.out ?_)
    | (go_at_call 71; refine (drop_any W5 s.left main HM.out).mono ?_; rintro e W6 ⟨rfl, hb6⟩; have HB6 := Lib.hid (HB5.out.trans (hb6.mono HB5.out.size)); have HR6 := Lib.hid (HR5.out.below hb6); have HQ6 := Lib.hid (HQ5.out.below hb6); have HX6 := Lib.hid (HX5.out.below hb6); have HY6 := Lib.hid (HY5.out.below hb6); clear hb6)
    | (refine wp_storeLeft (.tmp 31) (.tmp 30) rfl rfl rfl rfl HR6.out ?_; intro W7 hb7 ho7; have HR7 := Lib.hid hb7; have HX7 := Lib.hid (HX6.out.only ho7 (Nat.ne_of_lt HX4.out.lt)); have HQ7 := Lib.hid (HQ6.out.only ho7 (Nat.ne_of_lt HQ4.out.lt)); have c7 := HX7.out.cell (i := 3) rfl; have c6 := HX7.out.cell (i := 2) rfl; have HB7 := Lib.hid (HB6.out.trans (ho7.below HZ4.out)); clear hb7 ho7; simp only at c7 c6))
  have HK : Hid (∀ W', Below W7.heap.size W7 W' → (W'.cell? ⟨w.heap.size, 0, none⟩ = some (.int .u64 (wd s.left 0 : Int)) ∧ W'.cell? ⟨w.heap.size, 1, none⟩ = some (.int .u64 (wd s.left 1 : Int)) ∧ W'.cell? ⟨w.heap.size, 2, none⟩ = some (.int .u64 (wd s.left 2 : Int)) ∧ W'.cell? ⟨w.heap.size, 3, none⟩ = some (.int .u64 (wd s.left 3 : Int)) ∧ W'.cell? ⟨w.heap.size, 4, none⟩ = some (.int .u64 (wd s.left 4 : Int)) ∧ W'.cell? ⟨w.heap.size, 5, none⟩ = some (.int .u64 (wd s.left 5 : Int)) ∧ W'.cell? ⟨w.heap.size, 6, none⟩ = some (.int .u64 (wd s.left 6 : Int)) ∧ W'.cell? ⟨w.heap.size, 7, none⟩ = some (.int .u64 (wd s.left 7 : Int)) ∧ W'.cell? ⟨w.heap.size, 8, none⟩ = some (.int .u64 (wd s.left 8 : Int)) ∧ W'.cell? ⟨w.heap.size, 9, none⟩ = some (.int .u64 (wd s.left 9 : Int)) ∧ W'.cell? ⟨w.heap.size, 10, none⟩ = some (.int .u64 (wd s.left 10 : Int)) ∧ W'.cell? ⟨w.heap.size, 11, none⟩ = some (.int .u64 (wd s.left 11 : Int)) ∧ W'.cell? ⟨w.heap.size, 12, none⟩ = some (.int .u64 (wd s.left 12 : Int)) ∧ W'.cell? ⟨w.heap.size, 13, none⟩ = some (.int .u64 (wd s.left 13 : Int)) ∧ W'.cell? ⟨w.heap.size, 14, none⟩ = some (.int .u64 (wd s.left 14 : Int)) ∧ W'.cell? ⟨w.heap.size, 15, none⟩ = some (.int .u64 (wd s.left 15 : Int)) ∧ W'.cell? ⟨w.heap.size, 16, none⟩ = some (.int .i64 (s.goal : Int))) ∧ W'.cell? ⟨W1.heap.size, 2, none⟩ = some (.int .i64 (l : Int)) ∧ W'.cell? ⟨W1.heap.size, 3, none⟩ = some (.int .i64 (r : Int))) := fun W' hb => ⟨seq_cells (HQ7.out.below hb), (HX7.out.below hb).cell (i := 2) rfl, (HX7.out.below hb).cell (i := 3) rfl⟩
  have HD := Lib.hid (below_drewN W7 1)
  clear c6 c7
  have HW8 : Hid (∀ W : World, (∀ j (h : j < [l].length), W.cell? ⟨(W7.drewN 1).heap.size, 0 + j, none⟩ = some (.int .i64 ([l][j] : Int))) → Calls Tryd.prog 72 #[.agg #[.int .u64 (wd s.left 0 : Int), .int .u64 (wd s.left 1 : Int), .int .u64 (wd s.left 2 : Int), .int .u64 (wd s.left 3 : Int), .int .u64 (wd s.left 4 : Int), .int .u64 (wd s.left 5 : Int), .int .u64 (wd s.left 6 : Int), .int .u64 (wd s.left 7 : Int), .int .u64 (wd s.left 8 : Int), .int .u64 (wd s.left 9 : Int), .int .u64 (wd s.left 10 : Int), .int .u64 (wd s.left 11 : Int), .int .u64 (wd s.left 12 : Int), .int .u64 (wd s.left 13 : Int), .int .u64 (wd s.left 14 : Int), .int .u64 (wd s.left 15 : Int), .int .i64 (s.goal : Int)], .slice (some ⟨(W7.drewN 1).heap.size, 0, none⟩) 1 1] W fun e w' => e = .returned (.agg (seqL (s.left ||| 1 <<< l) s.goal).toArray) ∧ Below W.heap.size W w') := fun W hj => by
    have := with_any W s.left s.goal (W7.drewN 1).heap.size 0 1 [l] (by simp) (by simpa using HL.out) hj
    rw [maskOf_one] at this
    exact this
  go_region_held3 (fun W' => (W'.cell? ⟨w.heap.size, 0, none⟩ = some (.int .u64 (wd s.left 0 : Int)) ∧ W'.cell? ⟨w.heap.size, 1, none⟩ = some (.int .u64 (wd s.left 1 : Int)) ∧ W'.cell? ⟨w.heap.size, 2, none⟩ = some (.int .u64 (wd s.left 2 : Int)) ∧ W'.cell? ⟨w.heap.size, 3, none⟩ = some (.int .u64 (wd s.left 3 : Int)) ∧ W'.cell? ⟨w.heap.size, 4, none⟩ = some (.int .u64 (wd s.left 4 : Int)) ∧ W'.cell? ⟨w.heap.size, 5, none⟩ = some (.int .u64 (wd s.left 5 : Int)) ∧ W'.cell? ⟨w.heap.size, 6, none⟩ = some (.int .u64 (wd s.left 6 : Int)) ∧ W'.cell? ⟨w.heap.size, 7, none⟩ = some (.int .u64 (wd s.left 7 : Int)) ∧ W'.cell? ⟨w.heap.size, 8, none⟩ = some (.int .u64 (wd s.left 8 : Int)) ∧ W'.cell? ⟨w.heap.size, 9, none⟩ = some (.int .u64 (wd s.left 9 : Int)) ∧ W'.cell? ⟨w.heap.size, 10, none⟩ = some (.int .u64 (wd s.left 10 : Int)) ∧ W'.cell? ⟨w.heap.size, 11, none⟩ = some (.int .u64 (wd s.left 11 : Int)) ∧ W'.cell? ⟨w.heap.size, 12, none⟩ = some (.int .u64 (wd s.left 12 : Int)) ∧ W'.cell? ⟨w.heap.size, 13, none⟩ = some (.int .u64 (wd s.left 13 : Int)) ∧ W'.cell? ⟨w.heap.size, 14, none⟩ = some (.int .u64 (wd s.left 14 : Int)) ∧ W'.cell? ⟨w.heap.size, 15, none⟩ = some (.int .u64 (wd s.left 15 : Int)) ∧ W'.cell? ⟨w.heap.size, 16, none⟩ = some (.int .i64 (s.goal : Int))) ∧ W'.cell? ⟨W1.heap.size, 2, none⟩ = some (.int .i64 (l : Int)) ∧ W'.cell? ⟨W1.heap.size, 3, none⟩ = some (.int .i64 (r : Int)))
    (first | exact HK.out _ HD.out | exact HK.out _ (below_trans HD.out (below_alloc _ _)) | exact HK.out _ HB8.out | exact HK.out _ HB9.out | exact HK.out _ (below_trans HB9.out (below_alloc _ _)))
    (first
      | (go_at_call 72; refine (HW8.out _ (fun j hj => by simp at hj; subst hj; exact World.cell?_alloc_at _ _ _ _ rfl)).mono ?_; rintro e W8 ⟨rfl, hb8⟩; have HB8 := Lib.hid (below_trans (below_trans HD.out (below_alloc _ (.cells #[.int .i64 (l : Int)] 3))) hb8); clear hb8)
      | (go_at_call 76; refine (to_any W8 (s.left ||| 1 <<< l) s.goal (r : Int)).mono ?_; rintro e W9 ⟨rfl, hb9⟩; have HB9 := Lib.hid (below_trans HB8.out hb9); have hsl := seqL_len (s.left ||| 1 <<< l) (r : Int); clear hb9))
  go_wp2_with fail
  rw [fold_seq]
  exact bodyPost_ret (v := .tuple #[.slice (some ⟨W9.heap.size, 0, none⟩) 1 1, .int .i64 0]) (by simp [results, Tryd.results55, go_sem]) rfl ⟨W9.heap.size, rfl, (below_trans HB7.out HB9.out).size, BoxB.new W9 _ _, below_trans (below_trans HB7.out HB9.out) (below_alloc _ _)⟩
end Go.Dk
end
