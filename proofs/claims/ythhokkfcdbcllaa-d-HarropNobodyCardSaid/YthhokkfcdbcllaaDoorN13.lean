/- Parts of the proof: Qh, Qi, Qj, Qk, Ql, Qm, Qo, Qp, Qq. -/
import Derived.Test.YthhokkfcdbcllaaDoorN01
import Derived.Test.YthhokkfcdbcllaaDoorN02
import Derived.Test.YthhokkfcdbcllaaDoorN03
import Derived.Test.YthhokkfcdbcllaaDoorN04
import Derived.Test.YthhokkfcdbcllaaDoorN05
import Derived.Test.YthhokkfcdbcllaaDoorN06
import Derived.Test.YthhokkfcdbcllaaDoorN07
import Derived.Test.YthhokkfcdbcllaaDoorN08
import Derived.Test.YthhokkfcdbcllaaDoorN09
import Derived.Test.YthhokkfcdbcllaaDoorN10
import Derived.Test.YthhokkfcdbcllaaDoorN11
import Derived.Test.YthhokkfcdbcllaaDoorN12
section
namespace Go.Dk
open Go.RowKit Go.Maps Go.MapKept
open Go.Proofs hiding intOf
attribute [local go_sem ↓] load_fold
attribute [local go_sem] load_seqV
set_option maxRecDepth 100000 in
set_option maxHeartbeats 2000000 in
theorem prem6e_F (F : FP) (w : World) (t : Value) (rows : List ND) (hF : TabF F w t rows) (s : SQ) (main : Nat) (hm : main < rows.length) (kd : Int) (nm : ByteArray) (l r : Nat) (hx : rowAt rows main = ⟨kd, nm, (l : Int), (r : Int)⟩) (hr : r < 1024)
    (kd2 : Int) (nm2 : ByteArray) (l2 r2 : Int) (hy : nodeAt rows (l : Int) = ⟨kd2, nm2, l2, r2⟩) (rows1 : List ND) (er : Int) (her : er ≠ 0) (hR : impsP [fun _ => (r2, (r : Int)), fun made => (l2, made.headD 0)] rows [] = ⟨rows1, er, []⟩) :
    Calls Tryd.prog 55 #[t, .agg (seqL s.left s.goal).toArray, .int .i64 6, .int .i64 (main : Int)] w (PremErr F w t rows1 er) := by
  have HB0 := Lib.hid (below_alloc w (.cells (seqL s.left s.goal).toArray 81))
  have HQ0 := Lib.hid (BoxB.new w (seqL s.left s.goal) 81)
  have HN1 := Lib.hid (rnode_is 0 _ w t rows (hF.col 0) main hm _ hx)
  have HR := Lib.hid hr
  clear hr
  have HN2 : Hid (∀ W, Below w.heap.size w W → Calls Tryd.prog 66 #[t, .int .i64 (l : Int)] W fun e w' => e = .returned (.agg (ND.mk kd2 nm2 l2 r2).cells.toArray) ∧ Below W.heap.size W w') := fun W hb => hy ▸ rnode_any 0 _ W t rows ((hF.col 0).below hb) (l : Int)
  have HM : Hid (main < 1024) := Nat.lt_of_lt_of_le hm hF.ok.le
  have HI : Hid (∀ W gb, TabF F W t rows → ¬ F gb → (∀ j (h : j < ([fun _ => (r2, (r : Int)), fun made => (l2, made.headD 0)] : List PairF).length), ∃ fv, W.cell? ⟨gb, j, none⟩ = some fv ∧ PairOK (fun W' => ∃ F', KeptF F W F' W') j fv ([fun _ => (r2, (r : Int)), fun made => (l2, made.headD 0)] : List PairF)[j]) → Calls Tryd.prog 73 #[t, .slice (some ⟨gb, 0, none⟩) 2 2] W (ImpsPost F W t ⟨rows1, er, []⟩)) := fun W gb ht hg hf => by
    have := imps_any F W t rows ht gb [fun _ => (r2, (r : Int)), fun made => (l2, made.headD 0)] (by simp) hg hf
    rw [hR] at this
    exact this
  have hz2 : (er != 0) = true := by simpa using her
  clear her
  have HT := Lib.hid hF
  simp only at HN1
  clear hF hx hy hm hR
  go_enter Tryd.func55, Tryd.ntmps55
  go_wp2_with (first
    | (go_at_call 66; refine (HN1.out _ HB0.out).mono ?_; rintro e W1 ⟨rfl, hb1⟩; have HB1 := Lib.hid (below_trans HB0.out hb1); have HQ1 := Lib.hid (HQ0.out.below hb1); clear hb1 HN1)
    | (refine wp_storeRow rNode (.tmp 10) (.tmp 21) rfl rfl rfl (ys := (ND.mk kd nm (l : Int) (r : Int)).cells) rfl (BoxB.new W1 zeroN.cells 45) rfl rfl (cells_one _) ?_; intro W2 hb2 ho2; have c2 := hb2.cell (i := 2) rfl; have HX2 := Lib.hid hb2; have HB12 := Lib.hid ((below_alloc W1 _).trans (ho2.below (Nat.le_refl _))); have HB2 := Lib.hid (HB1.out.trans (HB12.out.mono HB1.out.size)); have HQ2 := Lib.hid (HQ1.out.below HB12.out); clear hb2 ho2; simp only at c2)
    | (go_at_call 66; refine (HN2.out _ HB2.out).mono ?_; rintro e W3 ⟨rfl, hb3⟩; have HB3 := Lib.hid (below_trans HB2.out hb3); have HQ3 := Lib.hid (HQ2.out.below hb3); have HX3 := Lib.hid (HX2.out.below hb3); clear hb3 c2)
    | (refine wp_storeRow rNode (.tmp 11) (.tmp 25) rfl rfl rfl (ys := (ND.mk kd2 nm2 l2 r2).cells) rfl (BoxB.new W3 zeroN.cells 45) rfl rfl (cells_one _) ?_; intro W4 hb4 ho4; have HY4 := Lib.hid hb4; have HB34 := Lib.hid ((below_alloc W3 _).trans (ho4.below (Nat.le_refl _))); have HB4 := Lib.hid (HB3.out.trans (HB34.out.mono HB3.out.size)); have HQ4 := Lib.hid (HQ3.out.below HB34.out); have HX4 := Lib.hid (HX3.out.below HB34.out); clear hb4 ho4)
    | (refine wp_loadSeq (.tmp 5) rfl rfl rfl HQ4.out ?_)
    | (refine wp_storeSeq (.tmp 12) (.tmp 26) rfl rfl rfl rfl (BoxB.new W4 (seqL 0 0) 81) (seqL_len _ _) ?_; intro W5 hb5 ho5; have HR5 := Lib.hid hb5; have HB45 := Lib.hid ((below_alloc W4 _).trans (ho5.below (Nat.le_refl _))); have HB5 := Lib.hid (HB4.out.trans (HB45.out.mono HB4.out.size)); have HQ5 := Lib.hid (HQ4.out.below HB45.out); have HX5 := Lib.hid (HX4.out.below HB45.out); have HY5 := Lib.hid (HY4.out.below HB45.out); have HZ4 := Lib.hid HB4.out.size; have HZ5 := Lib.hid HB45.out.size; clear hb5 ho5)
    | (refine wp_loadLeft (.tmp 27) rfl rfl rfl HQ5.out ?_)
    | (go_at_call 71; refine (drop_any W5 s.left main HM.out).mono ?_; rintro e W6 ⟨rfl, hb6⟩; have HB6 := Lib.hid (HB5.out.trans (hb6.mono HB5.out.size)); have HR6 := Lib.hid (HR5.out.below hb6); have HQ6 := Lib.hid (HQ5.out.below hb6); have HX6 := Lib.hid (HX5.out.below hb6); have HY6 := Lib.hid (HY5.out.below hb6); clear hb6)
    | (refine wp_storeLeft (.tmp 31) (.tmp 30) rfl rfl rfl rfl HR6.out ?_; intro W7 hb7 ho7; have HR7 := Lib.hid hb7; have HX7 := Lib.hid (HX6.out.only ho7 (Nat.ne_of_lt HX4.out.lt)); have HQ7 := Lib.hid (HQ6.out.only ho7 (Nat.ne_of_lt HQ4.out.lt)); have HY7 := Lib.hid (HY6.out.only ho7 (Nat.ne_of_lt HY4.out.lt)); have d3 := HY7.out.cell (i := 3) rfl; have d2 := HY7.out.cell (i := 2) rfl; have c7 := HX7.out.cell (i := 3) rfl; have c6 := HX7.out.cell (i := 2) rfl; have HB7 := Lib.hid (HB6.out.trans (ho7.below HZ4.out)); clear hb7 ho7; simp only at c7 c6 d2 d3)
    | (go_at_call 74; refine (pair_b W7 r2 (r : Int)).mono ?_; rintro e W8 ⟨p, q, rfl, hp, hq, cp, cq, hb8⟩; have HPB := Lib.hid hp; have HQB := Lib.hid hq; have HCP := Lib.hid cp; have HCQ := Lib.hid cq; have HB8 := Lib.hid hb8; have HT8 := Lib.hid (HT.out.below (below_trans HB7.out hb8)); have HCY := Lib.hid (cell_past hb8 d2); clear hp hq cp cq hb8)
    | (go_at_call 73; refine (HI.out _ W8.heap.size (HT8.out.below (below_alloc _ _)) (fun hf => by have := HT8.out.in_ _ hf; omega) (two_fs (pairOK (cell_past (below_alloc _ _) HCP.out) (cell_past (below_alloc _ _) HCQ.out) (notF HT.out.in_ HB7.out (Below.refl _ _) HPB.out) (notF HT.out.in_ HB7.out (Below.refl _ _) HQB.out)) (prem1OK (cell_past (below_alloc _ _) HCY.out) (notF HT.out.in_ HB3.out (Below.refl _ _) (Nat.le_refl _))))).mono ?_; rintro e W9 ⟨v9, F9, rfl, hk9, ht9, ho9⟩; have HKW := Lib.hid ((KeptF.of_below HT.out.in_ (below_trans (below_trans HB7.out HB8.out) (below_alloc _ _))).trans hk9); have HT9 := Lib.hid ht9; have HO9 := Lib.hid ho9; have HR9 := Lib.hid (((HR7.out.below HB8.out).below (below_alloc _ _)).keptF hk9 (fun hf => by have := HT.out.in_ _ hf; have := HB4.out.size; omega)); clear hk9 ht9 ho9))
  go_ret2
  exact ⟨F9, rfl, HKW.out, HT9.out⟩
set_option maxRecDepth 100000 in
set_option maxHeartbeats 2000000 in
theorem prem6_F (F : FP) (w : World) (t : Value) (rows : List ND) (hF : TabF F w t rows) (s : SQ) (main : Nat) (hm : main < rows.length) (kd : Int) (nm : ByteArray) (l r : Nat) (hx : rowAt rows main = ⟨kd, nm, (l : Int), (r : Int)⟩) (hr : r < 1024)
    (kd2 : Int) (nm2 : ByteArray) (l2 r2 : Int) (hy : nodeAt rows (l : Int) = ⟨kd2, nm2, l2, r2⟩) (rows1 : List ND) (i j : Nat) (hj : j < 1024) (hR : impsP [fun _ => (r2, (r : Int)), fun made => (l2, made.headD 0)] rows [] = ⟨rows1, 0, [(i : Int), (j : Int)]⟩) :
    Calls Tryd.prog 55 #[t, .agg (seqL s.left s.goal).toArray, .int .i64 6, .int .i64 (main : Int)] w (PremYes F w t rows1 [⟨withB (dropB s.left main) j, s.goal⟩]) := by
  have HB0 := Lib.hid (below_alloc w (.cells (seqL s.left s.goal).toArray 81))
  have HQ0 := Lib.hid (BoxB.new w (seqL s.left s.goal) 81)
  have HN1 := Lib.hid (rnode_is 0 _ w t rows (hF.col 0) main hm _ hx)
  have HR := Lib.hid hr
  clear hr
  have HN2 : Hid (∀ W, Below w.heap.size w W → Calls Tryd.prog 66 #[t, .int .i64 (l : Int)] W fun e w' => e = .returned (.agg (ND.mk kd2 nm2 l2 r2).cells.toArray) ∧ Below W.heap.size W w') := fun W hb => hy ▸ rnode_any 0 _ W t rows ((hF.col 0).below hb) (l : Int)
  have HM : Hid (main < 1024) := Nat.lt_of_lt_of_le hm hF.ok.le
  have HI : Hid (∀ W gb, TabF F W t rows → ¬ F gb → (∀ j (h : j < ([fun _ => (r2, (r : Int)), fun made => (l2, made.headD 0)] : List PairF).length), ∃ fv, W.cell? ⟨gb, j, none⟩ = some fv ∧ PairOK (fun W' => ∃ F', KeptF F W F' W') j fv ([fun _ => (r2, (r : Int)), fun made => (l2, made.headD 0)] : List PairF)[j]) → Calls Tryd.prog 73 #[t, .slice (some ⟨gb, 0, none⟩) 2 2] W (ImpsPost F W t ⟨rows1, 0, [(i : Int), (j : Int)]⟩)) := fun W gb ht hg hf => by
    have := imps_any F W t rows ht gb [fun _ => (r2, (r : Int)), fun made => (l2, made.headD 0)] (by simp) hg hf
    rw [hR] at this
    exact this
  have HJJ := Lib.hid hj
  clear hj
  have HT := Lib.hid hF
  simp only at HN1
  clear hF hx hy hm hR
  go_enter Tryd.func55, Tryd.ntmps55
  go_wp2_with (first
    | (go_at_call 66; refine (HN1.out _ HB0.out).mono ?_; rintro e W1 ⟨rfl, hb1⟩; have HB1 := Lib.hid (below_trans HB0.out hb1); have HQ1 := Lib.hid (HQ0.out.below hb1); clear hb1 HN1)
    | (refine wp_storeRow rNode (.tmp 10) (.tmp 21) rfl rfl rfl (ys := (ND.mk kd nm (l : Int) (r : Int)).cells) rfl (BoxB.new W1 zeroN.cells 45) rfl rfl (cells_one _) ?_; intro W2 hb2 ho2; have c2 := hb2.cell (i := 2) rfl; have HX2 := Lib.hid hb2; have HB12 := Lib.hid ((below_alloc W1 _).trans (ho2.below (Nat.le_refl _))); have HB2 := Lib.hid (HB1.out.trans (HB12.out.mono HB1.out.size)); have HQ2 := Lib.hid (HQ1.out.below HB12.out); clear hb2 ho2; simp only at c2)
    | (go_at_call 66; refine (HN2.out _ HB2.out).mono ?_; rintro e W3 ⟨rfl, hb3⟩; have HB3 := Lib.hid (below_trans HB2.out hb3); have HQ3 := Lib.hid (HQ2.out.below hb3); have HX3 := Lib.hid (HX2.out.below hb3); clear hb3 c2)
    | (refine wp_storeRow rNode (.tmp 11) (.tmp 25) rfl rfl rfl (ys := (ND.mk kd2 nm2 l2 r2).cells) rfl (BoxB.new W3 zeroN.cells 45) rfl rfl (cells_one _) ?_; intro W4 hb4 ho4; have HY4 := Lib.hid hb4; have HB34 := Lib.hid ((below_alloc W3 _).trans (ho4.below (Nat.le_refl _))); have HB4 := Lib.hid (HB3.out.trans (HB34.out.mono HB3.out.size)); have HQ4 := Lib.hid (HQ3.out.below HB34.out); have HX4 := Lib.hid (HX3.out.below HB34.out); clear hb4 ho4)
    | (refine wp_loadSeq (.tmp 5) rfl rfl rfl HQ4.out ?_)
    | (refine wp_storeSeq (.tmp 12) (.tmp 26) rfl rfl rfl rfl (BoxB.new W4 (seqL 0 0) 81) (seqL_len _ _) ?_; intro W5 hb5 ho5; have HR5 := Lib.hid hb5; have HB45 := Lib.hid ((below_alloc W4 _).trans (ho5.below (Nat.le_refl _))); have HB5 := Lib.hid (HB4.out.trans (HB45.out.mono HB4.out.size)); have HQ5 := Lib.hid (HQ4.out.below HB45.out); have HX5 := Lib.hid (HX4.out.below HB45.out); have HY5 := Lib.hid (HY4.out.below HB45.out); have HZ4 := Lib.hid HB4.out.size; have HZ5 := Lib.hid HB45.out.size; clear hb5 ho5)
    | (refine wp_loadLeft (.tmp 27) rfl rfl rfl HQ5.out ?_)
    | (go_at_call 71; refine (drop_any W5 s.left main HM.out).mono ?_; rintro e W6 ⟨rfl, hb6⟩; have HB6 := Lib.hid (HB5.out.trans (hb6.mono HB5.out.size)); have HR6 := Lib.hid (HR5.out.below hb6); have HQ6 := Lib.hid (HQ5.out.below hb6); have HX6 := Lib.hid (HX5.out.below hb6); have HY6 := Lib.hid (HY5.out.below hb6); clear hb6)
    | (refine wp_storeLeft (.tmp 31) (.tmp 30) rfl rfl rfl rfl HR6.out ?_; intro W7 hb7 ho7; have HR7 := Lib.hid hb7; have HX7 := Lib.hid (HX6.out.only ho7 (Nat.ne_of_lt HX4.out.lt)); have HQ7 := Lib.hid (HQ6.out.only ho7 (Nat.ne_of_lt HQ4.out.lt)); have HY7 := Lib.hid (HY6.out.only ho7 (Nat.ne_of_lt HY4.out.lt)); have d3 := HY7.out.cell (i := 3) rfl; have d2 := HY7.out.cell (i := 2) rfl; have c7 := HX7.out.cell (i := 3) rfl; have c6 := HX7.out.cell (i := 2) rfl; have HB7 := Lib.hid (HB6.out.trans (ho7.below HZ4.out)); clear hb7 ho7; simp only at c7 c6 d2 d3)
    | (go_at_call 74; refine (pair_b W7 r2 (r : Int)).mono ?_; rintro e W8 ⟨p, q, rfl, hp, hq, cp, cq, hb8⟩; have HPB := Lib.hid hp; have HQB := Lib.hid hq; have HCP := Lib.hid cp; have HCQ := Lib.hid cq; have HB8 := Lib.hid hb8; have HT8 := Lib.hid (HT.out.below (below_trans HB7.out hb8)); have HCY := Lib.hid (cell_past hb8 d2); clear hp hq cp cq hb8)
    | (go_at_call 73; refine (HI.out _ W8.heap.size (HT8.out.below (below_alloc _ _)) (fun hf => by have := HT8.out.in_ _ hf; omega) (two_fs (pairOK (cell_past (below_alloc _ _) HCP.out) (cell_past (below_alloc _ _) HCQ.out) (notF HT.out.in_ HB7.out (Below.refl _ _) HPB.out) (notF HT.out.in_ HB7.out (Below.refl _ _) HQB.out)) (prem1OK (cell_past (below_alloc _ _) HCY.out) (notF HT.out.in_ HB3.out (Below.refl _ _) (Nat.le_refl _))))).mono ?_; rintro e W9 ⟨v9, F9, rfl, hk9, ht9, ho9⟩; have HKW := Lib.hid ((KeptF.of_below HT.out.in_ (below_trans (below_trans HB7.out HB8.out) (below_alloc _ _))).trans hk9); have HT9 := Lib.hid ht9; have HO9 := Lib.hid ho9; have HR9 := Lib.hid (((HR7.out.below HB8.out).below (below_alloc _ _)).keptF hk9 (fun hf => by have := HT.out.in_ _ hf; have := HB4.out.size; omega)); obtain ⟨g, c, rfl, hg, hcg⟩ := (ho9 rfl).form (by simp); have HCG2 := Lib.hid (hcg 1 _ rfl); clear hk9 ht9 ho9 hg hcg))
  have HK : Hid (∀ W', Below W9.heap.size W9 W' → Aft W9 W') := fun W' hb => hb
  have hld : ∀ W', Aft W9 W' → Loadable 81 W' (.pointer (some ⟨W4.heap.size, 0, none⟩)) := fun W' hb => (loadV_is (HR9.out.below hb).loads).1
  have hlv : ∀ W', Aft W9 W' → loadV 81 W' (.pointer (some ⟨W4.heap.size, 0, none⟩)) = _ := fun W' hb => (loadV_is (HR9.out.below hb).loads).2
  have hcl0 : ∀ W', Aft W9 W' → W'.cell? ⟨g, 1, none⟩ = some (.int .i64 (j : Int)) := fun W' hb => cell_past hb HCG2.out
  have HD := Lib.hid (below_drewN W9 1)
  have HW1 : Hid (∀ (W : World) (g : Nat), W.cell? ⟨g, 0, none⟩ = some (.int .i64 (j : Int)) → Calls Tryd.prog 72 #[.agg (seqL (dropB s.left main) s.goal).toArray, .slice (some ⟨g, 0, none⟩) 1 1] W fun e w' => e = .returned (.agg (seqL (withB (dropB s.left main) j) s.goal).toArray) ∧ Below W.heap.size W w') := fun W g hj => by
    have := with_any W (dropB s.left main) s.goal g 0 1 [j] (by simp) (by simpa using HJJ.out) (cell_j hj)
    rw [maskOf_one] at this
    exact this
  clear c6 c7 d2 d3
  go_region_held3 (fun W' => Aft W9 W')
    (((refine HK.out _ ?_; repeat (with_reducible first | exact HB10.out | exact Below.refl _ _ | exact HD.out | refine below_trans ?_ (below_alloc _ _) | refine below_trans ?_ (below_dr _)))))
    ((go_at_call 72; refine (HW1.out _ _ (by repeat (first | (with_reducible refine cell_dr ?_) | ((with_reducible refine cell_new1 ?_); first | rfl | (simp; done)) | (with_reducible refine cell_past (below_alloc _ _) ?_)))).mono ?_; clear HW1; rintro e W10 ⟨rfl, hb10⟩; have HB10 : Hid (Below W9.heap.size W9 W10) := below_trans (by repeat (with_reducible first | exact Below.refl _ _ | exact HD.out | refine below_trans ?_ (below_alloc _ _) | refine below_trans ?_ (below_dr _))) hb10; have hsl := seqL_len (withB (dropB s.left main) j) s.goal; clear hb10))
  go_wp2_with fail
  rw [fold_seq]
  refine bodyPost_ret (v := .tuple #[.slice (some ⟨W10.heap.size, 0, none⟩) 1 1, .int .i64 0]) (by simp [results, Tryd.results55, go_sem]) rfl ?_
  exact prem_end HKW.out HT9.out HB10.out rfl (by simp)
end Go.Dk
end

section
namespace Go.Dk
open Go.RowKit Go.Maps Go.MapKept
open Go.Proofs hiding intOf
set_option maxRecDepth 100000 in
set_option maxHeartbeats 2000000 in
theorem prem1_any' (k : Nat) (ow : Own) (w : World) (t : Value) (rows : List ND) (h : Tab k ow w t rows) (s : SQ) (main : Nat) (hm : main < rows.length) :
    Calls Tryd.prog 55 #[t, .agg (seqL s.left s.goal).toArray, .int .i64 1, .int .i64 (main : Int)] w fun e w' => e = .returned (.tuple #[.slice none 0 0, .int .i64 0]) ∧ Below w.heap.size w w' := by
  have HB0 := Lib.hid (below_alloc w (.cells (seqL s.left s.goal).toArray 81))
  have HQ0 := Lib.hid (BoxB.new w (seqL s.left s.goal) 81)
  obtain ⟨x, hx⟩ : ∃ n, rowAt rows main = n := ⟨_, rfl⟩
  have HN1 := Lib.hid (rnode_is k ow w t rows h main hm x hx)
  obtain ⟨kd, nm, l, r⟩ := x
  obtain ⟨y, hy⟩ : ∃ n, nodeAt rows l = n := ⟨_, rfl⟩
  have HN2 : Hid (∀ W, Below w.heap.size w W → Calls Tryd.prog 66 #[t, .int .i64 l] W fun e w' => e = .returned (.agg y.cells.toArray) ∧ Below W.heap.size W w') := fun W hb => hy ▸ rnode_any k ow W t rows (h.below hb) l
  obtain ⟨kd2, nm2, l2, r2⟩ := y
  have hmx : main < 1024 := Nat.lt_of_lt_of_le hm h.ok.le
  have HM := Lib.hid hmx
  simp only at HN1
  clear h hx hy hmx hm
  go_enter Tryd.func55, Tryd.ntmps55
  go_wp2_with (first
    | (go_at_call 66; refine (HN1.out _ HB0.out).mono ?_; rintro e W1 ⟨rfl, hb1⟩; have HB1 := Lib.hid (below_trans HB0.out hb1); have HQ1 := Lib.hid (HQ0.out.below hb1); clear hb1 HN1)
    | (refine wp_storeRow rNode (.tmp 10) (.tmp 21) rfl rfl rfl (ys := (ND.mk kd nm l r).cells) rfl (BoxB.new W1 zeroN.cells 45) rfl rfl (cells_one _) ?_; intro W2 hb2 ho2; have c2 := hb2.cell (i := 2) rfl; have HX2 := Lib.hid hb2; have HB12 := Lib.hid ((below_alloc W1 _).trans (ho2.below (Nat.le_refl _))); have HB2 := Lib.hid (HB1.out.trans (HB12.out.mono HB1.out.size)); have HQ2 := Lib.hid (HQ1.out.below HB12.out); clear hb2 ho2; simp only at c2)
    | (go_at_call 66; refine (HN2.out _ HB2.out).mono ?_; rintro e W3 ⟨rfl, hb3⟩; have HB3 := Lib.hid (below_trans HB2.out hb3); have HQ3 := Lib.hid (HQ2.out.below hb3); have HX3 := Lib.hid (HX2.out.below hb3); clear hb3 c2)
    | (refine wp_storeRow rNode (.tmp 11) (.tmp 25) rfl rfl rfl (ys := (ND.mk kd2 nm2 l2 r2).cells) rfl (BoxB.new W3 zeroN.cells 45) rfl rfl (cells_one _) ?_; intro W4 hb4 ho4; have HY4 := Lib.hid hb4; have HB34 := Lib.hid ((below_alloc W3 _).trans (ho4.below (Nat.le_refl _))); have HB4 := Lib.hid (HB3.out.trans (HB34.out.mono HB3.out.size)); have HQ4 := Lib.hid (HQ3.out.below HB34.out); have HX4 := Lib.hid (HX3.out.below HB34.out); clear hb4 ho4)
    | (refine wp_loadSeq (.tmp 5) rfl rfl rfl HQ4.out ?_)
    | (refine wp_storeSeq (.tmp 12) (.tmp 26) rfl rfl rfl rfl (BoxB.new W4 (seqL 0 0) 81) (seqL_len _ _) ?_; intro W5 hb5 ho5; have HR5 := Lib.hid hb5; have HB45 := Lib.hid ((below_alloc W4 _).trans (ho5.below (Nat.le_refl _))); have HB5 := Lib.hid (HB4.out.trans (HB45.out.mono HB4.out.size)); have HQ5 := Lib.hid (HQ4.out.below HB45.out); have HX5 := Lib.hid (HX4.out.below HB45.out); have HY5 := Lib.hid (HY4.out.below HB45.out); have HZ4 := Lib.hid HB4.out.size; have HZ5 := Lib.hid HB45.out.size; clear hb5 ho5)
    | (refine wp_loadLeft (.tmp 27) rfl rfl rfl HQ5.out ?_)
    | (go_at_call 71; refine (drop_any W5 s.left main HM.out).mono ?_; rintro e W6 ⟨rfl, hb6⟩; have HB6 := Lib.hid (HB5.out.trans (hb6.mono HB5.out.size)); have HR6 := Lib.hid (HR5.out.below hb6); have HX6 := Lib.hid (HX5.out.below hb6); have HY6 := Lib.hid (HY5.out.below hb6); clear hb6)
    | (refine wp_storeLeft (.tmp 31) (.tmp 30) rfl rfl rfl rfl HR6.out ?_; intro W7 hb7 ho7; have HR7 := Lib.hid hb7; have HB7 := Lib.hid (HB6.out.trans (ho7.below HZ4.out)); clear hb7 ho7))
  go_ret2
  exact ⟨rfl, HB7.out⟩
set_option maxRecDepth 100000 in
set_option maxHeartbeats 2000000 in
theorem prem2_any (k : Nat) (ow : Own) (w : World) (t : Value) (rows : List ND) (h : Tab k ow w t rows) (s : SQ) (main : Nat) (hm : main < rows.length) :
    Calls Tryd.prog 55 #[t, .agg (seqL s.left s.goal).toArray, .int .i64 2, .int .i64 (main : Int)] w fun e w' => e = .returned (.tuple #[.slice none 0 0, .int .i64 0]) ∧ Below w.heap.size w w' := by
  have HB0 := Lib.hid (below_alloc w (.cells (seqL s.left s.goal).toArray 81))
  have HQ0 := Lib.hid (BoxB.new w (seqL s.left s.goal) 81)
  obtain ⟨x, hx⟩ : ∃ n, rowAt rows main = n := ⟨_, rfl⟩
  have HN1 := Lib.hid (rnode_is k ow w t rows h main hm x hx)
  obtain ⟨kd, nm, l, r⟩ := x
  obtain ⟨y, hy⟩ : ∃ n, nodeAt rows l = n := ⟨_, rfl⟩
  have HN2 : Hid (∀ W, Below w.heap.size w W → Calls Tryd.prog 66 #[t, .int .i64 l] W fun e w' => e = .returned (.agg y.cells.toArray) ∧ Below W.heap.size W w') := fun W hb => hy ▸ rnode_any k ow W t rows (h.below hb) l
  obtain ⟨kd2, nm2, l2, r2⟩ := y
  have hmx : main < 1024 := Nat.lt_of_lt_of_le hm h.ok.le
  have HM := Lib.hid hmx
  simp only at HN1
  clear h hx hy hmx hm
  go_enter Tryd.func55, Tryd.ntmps55
  go_wp2_with (first
    | (go_at_call 66; refine (HN1.out _ HB0.out).mono ?_; rintro e W1 ⟨rfl, hb1⟩; have HB1 := Lib.hid (below_trans HB0.out hb1); have HQ1 := Lib.hid (HQ0.out.below hb1); clear hb1 HN1)
    | (refine wp_storeRow rNode (.tmp 10) (.tmp 21) rfl rfl rfl (ys := (ND.mk kd nm l r).cells) rfl (BoxB.new W1 zeroN.cells 45) rfl rfl (cells_one _) ?_; intro W2 hb2 ho2; have c2 := hb2.cell (i := 2) rfl; have HX2 := Lib.hid hb2; have HB12 := Lib.hid ((below_alloc W1 _).trans (ho2.below (Nat.le_refl _))); have HB2 := Lib.hid (HB1.out.trans (HB12.out.mono HB1.out.size)); have HQ2 := Lib.hid (HQ1.out.below HB12.out); clear hb2 ho2; simp only at c2)
    | (go_at_call 66; refine (HN2.out _ HB2.out).mono ?_; rintro e W3 ⟨rfl, hb3⟩; have HB3 := Lib.hid (below_trans HB2.out hb3); have HQ3 := Lib.hid (HQ2.out.below hb3); have HX3 := Lib.hid (HX2.out.below hb3); clear hb3 c2)
    | (refine wp_storeRow rNode (.tmp 11) (.tmp 25) rfl rfl rfl (ys := (ND.mk kd2 nm2 l2 r2).cells) rfl (BoxB.new W3 zeroN.cells 45) rfl rfl (cells_one _) ?_; intro W4 hb4 ho4; have HY4 := Lib.hid hb4; have HB34 := Lib.hid ((below_alloc W3 _).trans (ho4.below (Nat.le_refl _))); have HB4 := Lib.hid (HB3.out.trans (HB34.out.mono HB3.out.size)); have HQ4 := Lib.hid (HQ3.out.below HB34.out); have HX4 := Lib.hid (HX3.out.below HB34.out); clear hb4 ho4)
    | (refine wp_loadSeq (.tmp 5) rfl rfl rfl HQ4.out ?_)
    | (refine wp_storeSeq (.tmp 12) (.tmp 26) rfl rfl rfl rfl (BoxB.new W4 (seqL 0 0) 81) (seqL_len _ _) ?_; intro W5 hb5 ho5; have HR5 := Lib.hid hb5; have HB45 := Lib.hid ((below_alloc W4 _).trans (ho5.below (Nat.le_refl _))); have HB5 := Lib.hid (HB4.out.trans (HB45.out.mono HB4.out.size)); have HQ5 := Lib.hid (HQ4.out.below HB45.out); have HX5 := Lib.hid (HX4.out.below HB45.out); have HY5 := Lib.hid (HY4.out.below HB45.out); have HZ4 := Lib.hid HB4.out.size; have HZ5 := Lib.hid HB45.out.size; clear hb5 ho5)
    | (refine wp_loadLeft (.tmp 27) rfl rfl rfl HQ5.out ?_)
    | (go_at_call 71; refine (drop_any W5 s.left main HM.out).mono ?_; rintro e W6 ⟨rfl, hb6⟩; have HB6 := Lib.hid (HB5.out.trans (hb6.mono HB5.out.size)); have HR6 := Lib.hid (HR5.out.below hb6); have HX6 := Lib.hid (HX5.out.below hb6); have HY6 := Lib.hid (HY5.out.below hb6); clear hb6)
    | (refine wp_storeLeft (.tmp 31) (.tmp 30) rfl rfl rfl rfl HR6.out ?_; intro W7 hb7 ho7; have HR7 := Lib.hid hb7; have HB7 := Lib.hid (HB6.out.trans (ho7.below HZ4.out)); clear hb7 ho7))
  go_ret2
  exact ⟨rfl, HB7.out⟩
/-- An answer that only made new blocks. -/
theorem raw_below {F : FP} {w : World} {t : Value} {rows : List ND} (h : TabF F w t rows) {l : List SQ} {n : Nat} {cs : List Value} (h0 : l ≠ []) (hn : l.length = n) (hc : (l.flatMap fun s => seqL s.left s.goal) = cs) {e : Ending} {w' : World}
    (hp : ∃ b, e = .returned (.tuple #[.slice (some ⟨b, 0, none⟩) n n, .int .i64 0]) ∧ w.heap.size ≤ b ∧ BoxB w' b cs 81 ∧ Below w.heap.size w w') : PremRaw F w t rows ⟨rows, 0, l⟩ e w' := by
  obtain ⟨b, rfl, hb, hx, hw⟩ := hp
  subst hn hc
  exact ⟨_, F, rfl, KeptF.of_below h.in_ hw, fun _ => ⟨h.below hw, .inr ⟨b, h0, rfl, hb, fun hf => by have := h.in_ _ hf; omega, hx⟩⟩, fun h => absurd rfl h⟩
theorem raw_none {F : FP} {w : World} {t : Value} {rows : List ND} (h : TabF F w t rows) {e : Ending} {w' : World} (hp : e = .returned (.tuple #[.slice none 0 0, .int .i64 0]) ∧ Below w.heap.size w w') : PremRaw F w t rows ⟨rows, 0, []⟩ e w' :=
  ⟨_, F, hp.1, KeptF.of_below h.in_ hp.2, fun _ => ⟨h.below hp.2, .inl ⟨rfl, rfl⟩⟩, fun h => absurd rfl h⟩
theorem raw_yes {F : FP} {w : World} {t : Value} {rows rows1 : List ND} {l : List SQ} {e : Ending} {w' : World} (hp : PremYes F w t rows1 l e w') : PremRaw F w t rows ⟨rows1, 0, l⟩ e w' := by
  obtain ⟨v, F', rfl, hk, ht, hs⟩ := hp
  exact ⟨v, F', rfl, hk, fun _ => ⟨ht, hs⟩, fun h => absurd rfl h⟩
theorem raw_err {F : FP} {w : World} {t : Value} {rows rows1 : List ND} {er : Int} (h0 : er ≠ 0) (hp1 : rows <+: rows1) {e : Ending} {w' : World} (hp : PremErr F w t rows1 er e w') : PremRaw F w t rows ⟨rows, er, []⟩ e w' := by
  obtain ⟨F', rfl, hk, ht⟩ := hp
  exact ⟨_, F', rfl, hk, fun h => absurd h h0, fun _ => ⟨rfl, rfl, rows1, hp1, ht⟩⟩
theorem PremRaw.eq {F : FP} {w : World} {t : Value} {rows : List ND} {p q : Prem} {e : Ending} {w' : World} (h : PremRaw F w t rows p e w') (hq : q = p) : PremRaw F w t rows q e w' := hq ▸ h
/-- A rule that fits. -/
structure FitK (rows : List ND) (s : SQ) (k : Int) (main : Nat) : Prop where
  lt : main < rows.length
  fit : fitsR rows s k main = true
theorem fit_cases {rows : List ND} {s : SQ} {k : Int} {main : Nat} (h : FitK rows s k main) :
    (k = 2 ∧ main = s.goal) ∨ (k = 8 ∧ main = s.goal ∧ (rowAt rows main).kind = 5) ∨ (k = 9 ∧ main = s.goal ∧ (rowAt rows main).kind = 3) ∨ ((k = 11 ∨ k = 12) ∧ main = s.goal ∧ (rowAt rows main).kind = 4) ∨ (k ≠ 0 ∧ s.left.testBit main = true ∧ onP rows s main = k) := by
  have hf := h.fit
  unfold fitsR at hf
  by_cases h2 : k = 2
  · rw [if_pos h2] at hf
    simp at hf
    exact .inl ⟨h2, hf.1⟩
  · rw [if_neg h2] at hf
    by_cases h8 : k = 8
    · rw [if_pos h8] at hf
      simp at hf
      exact .inr (.inl ⟨h8, hf.1, hf.2⟩)
    · rw [if_neg h8] at hf
      by_cases h9 : k = 9
      · rw [if_pos h9] at hf
        simp at hf
        exact .inr (.inr (.inl ⟨h9, hf.1, hf.2⟩))
      · rw [if_neg h9] at hf
        by_cases h11 : k = 11 ∨ k = 12
        · rw [if_pos h11] at hf
          simp at hf
          exact .inr (.inr (.inr (.inl ⟨h11, hf.1, hf.2⟩)))
        · rw [if_neg h11] at hf
          simp at hf
          exact .inr (.inr (.inr (.inr ⟨hf.1.1, hf.1.2, hf.2⟩)))
theorem row_two {rows : List ND} (ok : Ok rows) {i : Nat} (hi : i < rows.length) (hk : 3 ≤ (rowAt rows i).kind) : ∃ (kd : Int) (l r : Nat), l < i ∧ r < i ∧ rowAt rows i = ⟨kd, ByteArray.empty, (l : Int), (r : Int)⟩ := by
  rcases tree_row ok (rowAt_get hi) with ⟨a, e, _⟩ | ⟨e, _⟩ | ⟨l, r, hl, hr, h⟩
  · rw [e] at hk; simp at hk
  · rw [e] at hk; simp at hk
  · rcases h with ⟨e, _⟩ | ⟨e, _⟩ | ⟨e, _⟩ <;> exact ⟨_, l, r, hl, hr, e⟩
/-- One implication put. -/
theorem put_imp {rows : List ND} (ok : Ok rows) {a b : Nat} (ha : a < rows.length) (hb : b < rows.length) :
    ((put rows (impN2 ((a : Int), (b : Int)))).err ≠ 0) ∨ ((put rows (impN2 ((a : Int), (b : Int)))).err = 0 ∧ ∃ i : Nat, (put rows (impN2 ((a : Int), (b : Int)))).id = (i : Int) ∧ i < (put rows (impN2 ((a : Int), (b : Int)))).rows.length ∧ Ok (put rows (impN2 ((a : Int), (b : Int)))).rows) := by
  by_cases hz : (put rows (impN2 ((a : Int), (b : Int)))).err = 0
  · obtain ⟨o1, o2, i, o3, o4, o5⟩ := imgOk_two (kd := 5) ok (.inr (.inr rfl)) ha hb hz
    exact .inr ⟨hz, i, o3, o4, o1⟩
  · exact .inl hz
theorem putK_err {rows0 rows : List ND} {a b : Int} {k : List ND → Nat → Prem} (h : (put rows (impN2 (a, b))).err ≠ 0) : putK rows0 rows a b k = ⟨rows0, (put rows (impN2 (a, b))).err, []⟩ := by
  unfold putK
  exact if_pos h
theorem putK_go {rows0 rows : List ND} {a b : Int} {k : List ND → Nat → Prem} {i : Nat} (h : (put rows (impN2 (a, b))).err = 0) (hi : (put rows (impN2 (a, b))).id = (i : Int)) : putK rows0 rows a b k = k (put rows (impN2 (a, b))).rows i := by
  unfold putK
  have h1 : ¬ (put rows (impN a b)).err ≠ 0 := fun hn => hn h
  have h2 : (put rows (impN a b)).id.toNat = i := by
    have : (put rows (impN a b)).id = (i : Int) := hi
    rw [this]; rfl
  simp only
  rw [if_neg h1, h2]
  rfl
theorem imps_one_err {rows : List ND} {f : PairF} (h : (put rows (impN2 (f []))).err ≠ 0) : impsP [f] rows [] = ⟨(put rows (impN2 (f []))).rows, (put rows (impN2 (f []))).err, []⟩ := by
  unfold impsP
  exact if_pos h
theorem imps_cons_err {rows : List ND} {f g : PairF} (h : (put rows (impN2 (f []))).err ≠ 0) : impsP [f, g] rows [] = ⟨(put rows (impN2 (f []))).rows, (put rows (impN2 (f []))).err, []⟩ := by
  unfold impsP
  exact if_pos h
theorem imps_one {rows : List ND} {f : PairF} {i : Nat} (h : (put rows (impN2 (f []))).err = 0) (hi : (put rows (impN2 (f []))).id = (i : Int)) : impsP [f] rows [] = ⟨(put rows (impN2 (f []))).rows, 0, [(i : Int)]⟩ := by
  unfold impsP
  rw [if_neg (by simpa using h), hi]
  rfl
theorem imps_two_err {rows : List ND} {f g : PairF} {i : Nat} (h : (put rows (impN2 (f []))).err = 0) (hi : (put rows (impN2 (f []))).id = (i : Int)) (h2 : (put (put rows (impN2 (f []))).rows (impN2 (g [(i : Int)]))).err ≠ 0) :
    impsP [f, g] rows [] = ⟨(put (put rows (impN2 (f []))).rows (impN2 (g [(i : Int)]))).rows, (put (put rows (impN2 (f []))).rows (impN2 (g [(i : Int)]))).err, []⟩ := by
  unfold impsP
  rw [if_neg (by simpa using h), hi]
  unfold impsP
  exact if_pos h2
theorem imps_two {rows : List ND} {f g : PairF} {i j : Nat} (h : (put rows (impN2 (f []))).err = 0) (hi : (put rows (impN2 (f []))).id = (i : Int)) (h2 : (put (put rows (impN2 (f []))).rows (impN2 (g [(i : Int)]))).err = 0) (hj : (put (put rows (impN2 (f []))).rows (impN2 (g [(i : Int)]))).id = (j : Int)) :
    impsP [f, g] rows [] = ⟨(put (put rows (impN2 (f []))).rows (impN2 (g [(i : Int)]))).rows, 0, [(i : Int), (j : Int)]⟩ := by
  unfold impsP
  rw [if_neg (by simpa using h), hi]
  unfold impsP
  simp only [List.nil_append]
  rw [if_neg (by simpa using h2), hj]
  rfl
/-- premises, at a rule that fits. -/
theorem premises_any (F : FP) (w : World) (t : Value) (rows : List ND) (hF : TabF F w t rows) (s : SQ) (_wf : Wf rows s) (k : Int) (main : Nat) (h : FitK rows s k main) :
    Calls Tryd.prog 55 #[t, .agg (seqL s.left s.goal).toArray, .int .i64 k, .int .i64 (main : Int)] w (PremRaw F w t rows (premisesP rows s k main)) := by
  have ok := hF.ok
  have hle := ok.le
  have hm := h.lt
  have ht := hF.col 0
  rcases fit_cases h with ⟨rfl, rfl⟩ | ⟨rfl, rfl, h5⟩ | ⟨rfl, rfl, h3⟩ | ⟨hk, rfl, h4⟩ | ⟨h0, hb, hon⟩
  · exact (prem2_any 0 _ w t rows ht s _ hm).mono fun e w' hp => (raw_none hF hp).eq (by simp [premisesP])
  · obtain ⟨kd, l, r, hl, hr, e⟩ := row_two ok hm (by omega)
    exact (prem8_any 0 _ w t rows ht s _ hm kd _ l r e (by omega) (by omega)).mono fun _ w' hp => (raw_below hF (l := [⟨withB s.left l, r⟩]) (by simp) rfl (by simp) hp).eq (by simp [premisesP, e])
  · obtain ⟨kd, l, r, hl, hr, e⟩ := row_two ok hm (by omega)
    exact (prem9_any 0 _ w t rows ht s _ hm kd _ l r e (by omega) (by omega)).mono fun _ w' hp => (raw_below hF (l := [⟨s.left, l⟩, ⟨s.left, r⟩]) (by simp) rfl (by simp) hp).eq (by simp [premisesP, e])
  · obtain ⟨kd, l, r, hl, hr, e⟩ := row_two ok hm (by omega)
    rcases hk with rfl | rfl
    · exact (prem11_any 0 _ w t rows ht s _ hm kd _ l r e (by omega) (by omega)).mono fun _ w' hp => (raw_below hF (l := [⟨s.left, l⟩]) (by simp) rfl (by simp) hp).eq (by simp [premisesP, e])
    · exact (prem12_any 0 _ w t rows ht s _ hm kd _ l r e (by omega) (by omega)).mono fun _ w' hp => (raw_below hF (l := [⟨s.left, r⟩]) (by simp) rfl (by simp) hp).eq (by simp [premisesP, e])
  · rcases on_row ok hm hon h0 with ⟨rfl, _⟩ | ⟨l, r, hl, hr, e, rfl, _⟩ | ⟨l, r, hl, hr, e, rfl, _⟩ | ⟨l, r, hl, hr, e, _, hc⟩
    · exact (prem1_any' 0 _ w t rows ht s _ hm).mono fun e w' hp => (raw_none hF hp).eq (by simp [premisesP])
    · exact (prem3_any 0 _ w t rows ht s _ hm _ _ l r e (by omega) (by omega)).mono fun _ w' hp => (raw_below hF (l := [⟨withB (withB (dropB s.left main) l) r, s.goal⟩]) (by simp) rfl (by simp) hp).eq (by simp [premisesP, e])
    · exact (prem10_any 0 _ w t rows ht s _ hm _ _ l r e (by omega) (by omega)).mono fun _ w' hp => (raw_below hF (l := [⟨withB (dropB s.left main) l, s.goal⟩, ⟨withB (dropB s.left main) r, s.goal⟩]) (by simp) rfl (by simp) hp).eq (by simp [premisesP, e])
    · have hll : l < rows.length := by omega
      rcases hc with ⟨rfl, _⟩ | ⟨rfl, _⟩ | ⟨x, y, hx, hy, ⟨rfl, e2, _⟩ | ⟨rfl, e2, _⟩ | ⟨rfl, e2, _⟩⟩
      · exact (prem4_any 0 _ w t rows ht s _ hm _ _ l r e (by omega)).mono fun _ w' hp => (raw_below hF (l := [⟨withB (dropB s.left main) r, s.goal⟩]) (by simp) rfl (by simp) hp).eq (by simp [premisesP, e])
      · exact (prem5_any 0 _ w t rows ht s _ hm).mono fun _ w' hp => (raw_below hF (l := [⟨dropB s.left main, s.goal⟩]) (by simp) rfl (by simp) hp).eq (by simp [premisesP])
      all_goals have e3 := (nodeAt_in rows hll).trans e2
      · -- (C & D) -> B
        have hP : premisesP rows s 6 main = putK rows rows (y : Int) (r : Int) fun rows1 f => putK rows rows1 (x : Int) (f : Int) fun rows2 g => ⟨rows2, 0, [⟨withB (dropB s.left main) g, s.goal⟩]⟩ := by simp [premisesP, e, e2]
        rcases put_imp ok (a := y) (b := r) (by omega) (by omega) with hz | ⟨hz, i, hi, hil, ok1⟩
        · exact (prem6e_F F w t rows hF s main hm _ _ l r e (by omega) _ _ _ _ e3 _ _ hz (imps_cons_err (f := fun _ => ((y : Int), (r : Int))) (g := fun made => ((x : Int), made.headD 0)) hz)).mono fun _ _ hp => (raw_err hz (put_prefix _ _) hp).eq (by rw [hP, putK_err hz])
        · have p1 := put_prefix rows (impN2 ((y : Int), (r : Int)))
          have hxl : x < (put rows (impN2 ((y : Int), (r : Int)))).rows.length := Nat.lt_of_lt_of_le (by omega) p1.length_le
          rcases put_imp ok1 (a := x) (b := i) hxl hil with hz2 | ⟨hz2, j, hj, hjl, ok2⟩
          · exact (prem6e_F F w t rows hF s main hm _ _ l r e (by omega) _ _ _ _ e3 _ _ hz2 (imps_two_err (f := fun _ => ((y : Int), (r : Int))) (g := fun made => ((x : Int), made.headD 0)) hz hi hz2)).mono fun _ _ hp => (raw_err hz2 (p1.trans (put_prefix _ _)) hp).eq (by rw [hP, putK_go hz hi, putK_err hz2])
          · have := ok2.le
            exact (prem6_F F w t rows hF s main hm _ _ l r e (by omega) _ _ _ _ e3 _ i j (by omega) (imps_two (f := fun _ => ((y : Int), (r : Int))) (g := fun made => ((x : Int), made.headD 0)) hz hi hz2 hj)).mono fun _ _ hp => (raw_yes hp).eq (by rw [hP, putK_go hz hi, putK_go hz2 hj]; rfl)
      · have hP : premisesP rows s 7 main = putK rows rows (x : Int) (r : Int) fun rows1 f => putK rows rows1 (y : Int) (r : Int) fun rows2 g => ⟨rows2, 0, [⟨withB (withB (dropB s.left main) f) g, s.goal⟩]⟩ := by simp [premisesP, e, e2]
        rcases put_imp ok (a := x) (b := r) (by omega) (by omega) with hz | ⟨hz, i, hi, hil, ok1⟩
        · exact (prem7e_F F w t rows hF s main hm _ _ l r e (by omega) _ _ _ _ e3 _ _ hz (imps_cons_err (f := fun _ => ((x : Int), (r : Int))) (g := fun _ => ((y : Int), (r : Int))) hz)).mono fun _ _ hp => (raw_err hz (put_prefix _ _) hp).eq (by rw [hP, putK_err hz])
        · have p1 := put_prefix rows (impN2 ((x : Int), (r : Int)))
          have hyl : y < (put rows (impN2 ((x : Int), (r : Int)))).rows.length := Nat.lt_of_lt_of_le (by omega) p1.length_le
          have hrl : r < (put rows (impN2 ((x : Int), (r : Int)))).rows.length := Nat.lt_of_lt_of_le (by omega) p1.length_le
          have := ok1.le
          rcases put_imp ok1 (a := y) (b := r) hyl hrl with hz2 | ⟨hz2, j, hj, hjl, ok2⟩
          · exact (prem7e_F F w t rows hF s main hm _ _ l r e (by omega) _ _ _ _ e3 _ _ hz2 (imps_two_err (f := fun _ => ((x : Int), (r : Int))) (g := fun _ => ((y : Int), (r : Int))) hz hi hz2)).mono fun _ _ hp => (raw_err hz2 (p1.trans (put_prefix _ _)) hp).eq (by rw [hP, putK_go hz hi, putK_err hz2])
          · have := ok2.le
            exact (prem7_F F w t rows hF s main hm _ _ l r e (by omega) _ _ _ _ e3 _ i j (by omega) (by omega) (imps_two (f := fun _ => ((x : Int), (r : Int))) (g := fun _ => ((y : Int), (r : Int))) hz hi hz2 hj)).mono fun _ _ hp => (raw_yes hp).eq (by rw [hP, putK_go hz hi, putK_go hz2 hj])
      · have hP : premisesP rows s 13 main = putK rows rows (y : Int) (r : Int) fun rows1 f => ⟨rows1, 0, [⟨withB (dropB s.left main) f, l⟩, ⟨withB (dropB s.left main) r, s.goal⟩]⟩ := by simp [premisesP, e, e2]
        rcases put_imp ok (a := y) (b := r) (by omega) (by omega) with hz | ⟨hz, i, hi, hil, ok1⟩
        · exact (prem13e_F F w t rows hF s main hm _ _ l r e (by omega) _ _ _ _ e3 _ _ hz (imps_one_err (f := fun _ => ((y : Int), (r : Int))) hz)).mono fun _ _ hp => (raw_err hz (put_prefix _ _) hp).eq (by rw [hP, putK_err hz])
        · have := ok1.le
          exact (prem13_F F w t rows hF s main hm _ _ l r e (by omega) _ _ _ _ e3 _ i (by omega) (imps_one (f := fun _ => ((y : Int), (r : Int))) hz hi)).mono fun _ _ hp => (raw_yes hp).eq (by rw [hP, putK_go hz hi])
end Go.Dk
end

section
namespace Go.Dk
open Go.RowKit Go.Maps Go.MapKept
open Go.Proofs hiding intOf
theorem fits_true (k : Nat) (ow : Own) (w : World) (t : Value) (rows : List ND) (ht : Tab k ow w t rows) (s : SQ) (kk : Int) (main : Nat) (h : FitK rows s kk main) :
    Calls Tryd.prog 54 #[t, .agg (seqL s.left s.goal).toArray, .int .i64 kk, .int .i64 (main : Int)] w fun e w' => e = .returned (.bool true) ∧ Below w.heap.size w w' := by
  have hf := h.fit
  rcases fit_cases h with ⟨rfl, rfl⟩ | ⟨rfl, rfl, h5⟩ | ⟨rfl, rfl, h3⟩ | ⟨hk, rfl, h4⟩ | ⟨h0, hb, hon⟩
  · refine (fits2_any k ow w t rows ht s _ h.lt true (by simp)).mono ?_
    rintro e w' ⟨rfl, hb⟩
    simp [fitsR] at hf
    exact ⟨by simp [hf], hb⟩
  · refine (fits8_any k ow w t rows ht s _ h.lt true (by simp)).mono ?_
    rintro e w' ⟨rfl, hb⟩
    exact ⟨by simp [h5], hb⟩
  · refine (fits9_any k ow w t rows ht s _ h.lt true (by simp)).mono ?_
    rintro e w' ⟨rfl, hb⟩
    exact ⟨by simp [h3], hb⟩
  · rcases hk with rfl | rfl
    · refine (fits11_any k ow w t rows ht s _ h.lt true (by simp)).mono ?_
      rintro e w' ⟨rfl, hb⟩
      exact ⟨by simp [h4], hb⟩
    · refine (fits12_any k ow w t rows ht s _ h.lt true (by simp)).mono ?_
      rintro e w' ⟨rfl, hb⟩
      exact ⟨by simp [h4], hb⟩
  · have hc : kk = 1 ∨ kk = 3 ∨ kk = 10 ∨ kk = 4 ∨ kk = 5 ∨ kk = 6 ∨ kk = 7 ∨ kk = 13 := by
      rcases on_row ht.ok h.lt hon h0 with ⟨e, _⟩ | ⟨l, r, _, _, _, e, _⟩ | ⟨l, r, _, _, _, e, _⟩ | ⟨l, r, _, _, _, _, ⟨e, _⟩ | ⟨e, _⟩ | ⟨x, y, _, _, ⟨e, _⟩ | ⟨e, _⟩ | ⟨e, _⟩⟩⟩ <;> simp [e]
    refine (fitsL_any k ow w t rows ht s main kk h0 (by rcases hc with h | h | h | h | h | h | h | h <;> subst h <;> decide) (by rcases hc with h | h | h | h | h | h | h | h <;> subst h <;> decide) (by rcases hc with h | h | h | h | h | h | h | h <;> subst h <;> decide) (by rcases hc with h | h | h | h | h | h | h | h <;> subst h <;> decide) (by rcases hc with h | h | h | h | h | h | h | h <;> subst h <;> decide) h.lt _ rfl).mono ?_
    rintro e w' ⟨rfl, hb2⟩
    exact ⟨by simp [hb, hon], hb2⟩
def PremF (F : FP) (w : World) (t : Value) (p : Prem) (e : Ending) (w' : World) : Prop :=
  ∃ v F', e = .returned (.tuple #[v, .int .i64 p.err]) ∧ KeptF F w F' w' ∧ TabF F' w' t p.rows ∧ (p.err = 0 → SeqsV w.heap.size F' w' v p.seqs)
theorem SeqsV.mono {B B' : Nat} {F : FP} {w : World} {v : Value} {l : List SQ} (h : SeqsV B F w v l) (hb : B' ≤ B) : SeqsV B' F w v l := by
  rcases h with h | ⟨b, h1, h2, h3, h4⟩
  · exact .inl h
  · exact .inr ⟨b, h1, h2, Nat.le_trans hb h3, h4⟩
theorem cut_back {rows rows1 : List ND} (h : rows <+: rows1) : (cutP rows1 (rows.length : Int)).2 = rows := by
  have := h.length_le
  unfold cutP
  rw [if_pos (by omega)]
  obtain ⟨r, rfl⟩ := h
  simp
set_option maxRecDepth 100000 in
set_option maxHeartbeats 2000000 in
theorem rPremises_any (F : FP) (w : World) (t : Value) (rows : List ND) (hF : TabF F w t rows) (hT : TabG w) (s : SQ) (wf : Wf rows s) (k : Int) (main : Nat) (h : FitK rows s k main) :
    Calls Tryd.prog 46 #[t, .agg (seqL s.left s.goal).toArray, .int .i64 k, .int .i64 (main : Int)] w (PremF F w t (premisesP rows s k main)) := by
  have HB0 := Lib.hid (below_alloc w (.cells (seqL s.left s.goal).toArray 81))
  have HQ0 := Lib.hid (BoxB.new w (seqL s.left s.goal) 81)
  have HL := Lib.hid (look_ok 0 _ _ t rows ((hF.col 0).below HB0.out) (hT.below HB0.out) s wf)
  have HI : Hid (∀ W, Below w.heap.size w W → Calls Tryd.prog 54 #[t, .agg (seqL s.left s.goal).toArray, .int .i64 k, .int .i64 (main : Int)] W fun e w' => e = .returned (.bool true) ∧ Below W.heap.size W w') := fun W hb => fits_true 0 _ W t rows ((hF.col 0).below hb) s k main h
  have HN : Hid (∀ W, Below w.heap.size w W → Calls Tryd.prog 16 #[t] W fun e w' => e = .returned (.int .i64 (rows.length : Int)) ∧ W = w') := fun W hb => len_any 0 _ W t rows ((hF.col 0).below hb)
  obtain ⟨p, hp⟩ : ∃ p, premisesP rows s k main = p := ⟨_, rfl⟩
  have HP : Hid (∀ W, Below w.heap.size w W → Calls Tryd.prog 55 #[t, .agg (seqL s.left s.goal).toArray, .int .i64 k, .int .i64 (main : Int)] W (PremRaw F W t rows p)) := fun W hb => hp ▸ premises_any F W t rows (hF.below hb) s wf k main h
  rw [hp]
  have HF := Lib.hid hF
  clear hF hT wf h hp
  obtain ⟨prows, perr, pseqs⟩ := p
  by_cases hz : perr = 0
  · subst hz
    go_enter Tryd.func46, Tryd.ntmps46
    go_wp2_with (first
      | (refine wp_loadSeq (.tmp 5) rfl rfl rfl HQ0.out ?_)
      | (go_at_call 51; refine HL.out.mono ?_; rintro e W1 ⟨rfl, hb1⟩; have HB1 := Lib.hid (below_trans HB0.out hb1); have HQ1 := Lib.hid (HQ0.out.below hb1); clear hb1 HL HQ0)
      | (refine wp_loadSeq (.tmp 5) rfl rfl rfl HQ1.out ?_)
      | (go_at_call 54; refine (HI.out _ HB1.out).mono ?_; rintro e W2 ⟨rfl, hb2⟩; have HB2 := Lib.hid (below_trans HB1.out hb2); have HQ2 := Lib.hid (HQ1.out.below hb2); clear hb2 HQ1)
      | (go_at_call 16; refine (HN.out _ HB2.out).mono ?_; rintro e w' ⟨rfl, rfl⟩)
      | (refine wp_loadSeq (.tmp 5) rfl rfl rfl HQ2.out ?_)
      | (go_at_call 55; refine (HP.out _ HB2.out).mono ?_; rintro e W3 ⟨v, F3, rfl, hk3, h3, _⟩; have HK3 := Lib.hid hk3; have H3 := Lib.hid (h3 rfl); clear hk3 h3))
    go_ret2
    exact ⟨v, F3, rfl, (KeptF.of_below HF.out.in_ HB2.out).trans HK3.out, H3.out.1, fun _ => H3.out.2.mono HB2.out.size⟩
  · have hz2 : (perr != 0) = true := by simpa using hz
    have HZ := Lib.hid hz
    clear hz
    go_enter Tryd.func46, Tryd.ntmps46
    go_wp2_with (first
      | (refine wp_loadSeq (.tmp 5) rfl rfl rfl HQ0.out ?_)
      | (go_at_call 51; refine HL.out.mono ?_; rintro e W1 ⟨rfl, hb1⟩; have HB1 := Lib.hid (below_trans HB0.out hb1); have HQ1 := Lib.hid (HQ0.out.below hb1); clear hb1 HL HQ0)
      | (refine wp_loadSeq (.tmp 5) rfl rfl rfl HQ1.out ?_)
      | (go_at_call 54; refine (HI.out _ HB1.out).mono ?_; rintro e W2 ⟨rfl, hb2⟩; have HB2 := Lib.hid (below_trans HB1.out hb2); have HQ2 := Lib.hid (HQ1.out.below hb2); clear hb2 HQ1)
      | (go_at_call 16; refine (HN.out _ HB2.out).mono ?_; rintro e w' ⟨rfl, rfl⟩)
      | (refine wp_loadSeq (.tmp 5) rfl rfl rfl HQ2.out ?_)
      | (go_at_call 55; refine (HP.out _ HB2.out).mono ?_; rintro e W3 ⟨v, F3, rfl, hk3, _, h3⟩; obtain ⟨rfl, hpr, rows1, hpre, ht1⟩ := h3 HZ.out; have HK3 := Lib.hid hk3; have HPR := Lib.hid hpr; have HPE := Lib.hid hpre; have HT3 := Lib.hid ht1; clear hk3 h3 hpr hpre ht1)
      | (go_at_call 18; refine (cut_F HT3.out (rows.length : Int)).mono ?_; rintro e W4 ⟨rfl, F4, hk4, ht4⟩; have HK4 := Lib.hid hk4; have HT4 := Lib.hid ht4; clear hk4 ht4))
    go_ret2
    have h4 := HT4.out
    rw [cut_back HPE.out] at h4
    refine ⟨_, F4, rfl, ((KeptF.of_below HF.out.in_ HB2.out).trans HK3.out).trans HK4.out, ?_, fun h => absurd h HZ.out⟩
    have h5 := HPR.out
    simp only at h5 ⊢
    rw [h5]
    exact h4
end Go.Dk
end

section
namespace Go.Dk
open Go.RowKit Go.Maps Go.MapKept Go.Shelf
open Go.Proofs hiding intOf
attribute [local go_sem] Oper.semAt_some
/-- What a store of a longer slice into its box leaves. -/
theorem keep_app {W w1 : World} {B : Nat} {v v' : Value} {tmp : Obj} (hgrow : (W.alloc tmp).grownBy w1 v.ownBlock) {b : Nat} (hb : b < W.heap.size) (h1 : v.ownBlock ≠ some b) (h2 : b ≠ B) : (w1.setCell ⟨B, 0, none⟩ v').heap[b]? = W.heap[b]? := by
  rw [Below.heap_setCell _ _ _ _ h2, hgrow.block b (by simp; omega) (fun e => h1 e.symm)]
  exact Below.heap_alloc _ _ _ hb
theorem own_same {w w' : World} {base : Nat} {e : TypeId} {size : Nat} {v : Value} {n : Nat} {xs : List Value} (ho : w.ownsRow base e size v n xs) (hn : ∀ g, v.ownBlock = some g → w'.heap[g]? = w.heap[g]?) : w'.ownsRow base e size v n xs := by
  refine ⟨ho.1, ?_⟩
  rcases ho.2 with hn' | ⟨g, cap, cur, rfl, hbg, hg, rest⟩
  · exact .inl hn'
  · exact .inr ⟨g, cap, cur, rfl, hbg, (hn g rfl).trans hg, rest⟩
structure ChoB (n0 : Nat) (W : World) (rs ms : List Int) (v8 v9 : Value) : Prop where
  b8 : _root_.Go.Boxed W n0 120 v8
  b9 : _root_.Go.Boxed W (n0 + 1) 22 v9
  r8 : W.ownsRow n0 100 1 v8 rs.length (ints rs)
  r9 : W.ownsRow n0 3 1 v9 ms.length (ints ms)
structure Cho (w5 : World) (n0 bb m : Nat) (rs ms : List Int) (W : World) : Prop where
  bel : Below n0 w5 W
  bits : BoxB W bb (bitsV m) 72
  bx : ∃ v8 v9, ChoB n0 W rs ms v8 v9
theorem ChoB.n8 {n0 : Nat} {W : World} {rs ms : List Int} {v8 v9 : Value} (h : ChoB n0 W rs ms v8 v9) : (∀ g, v8.ownBlock = some g → v9.ownBlock ≠ some g) := fun g h8 h9 => by
  rcases h.r8.2 with ⟨e, _⟩ | ⟨g8, c8, cur8, e8, _, hg8, _⟩
  · rw [e] at h8; simp [Value.ownBlock] at h8
  rcases h.r9.2 with ⟨e, _⟩ | ⟨g9, c9, cur9, e9, _, hg9, _⟩
  · rw [e] at h9; simp [Value.ownBlock] at h9
  rw [e8] at h8; rw [e9] at h9
  simp [Value.ownBlock] at h8 h9
  subst h8 h9
  rw [hg8] at hg9
  simp at hg9
theorem ChoB.below {n0 : Nat} {W W' : World} {rs ms : List Int} {v8 v9 : Value} (h : ChoB n0 W rs ms v8 v9) (hb : Below W.heap.size W W') : ChoB n0 W' rs ms v8 v9 :=
  ⟨(hb.block _ h.b8.lt).trans h.b8, (hb.block _ h.b9.lt).trans h.b9, own_same h.r8 (fun g hg => hb.block g (h.r8.lt g hg).2), own_same h.r9 (fun g hg => hb.block g (h.r9.lt g hg).2)⟩
theorem box_lt_ne {W : World} {b : Nat} {cs : List Value} {T e : TypeId} (h : BoxB W b cs T) (hT : T ≠ e) {base size n : Nat} {v : Value} {xs : List Value} (hr : W.ownsRow base e size v n xs) : v.ownBlock ≠ some b :=
  own_ne hr h (fun cur fr e => by cases e; exact hT rfl)
/-- Some more rules. -/
theorem ChoB.app8 {n0 bb : Nat} {W w1 : World} {rs ms xs : List Int} {v8 v9 v' : Value} {tmp : Obj} (h : ChoB n0 W rs ms v8 v9) {cs : List Value} {T : TypeId} (hbits : BoxB W bb cs T) (hT : T ≠ 100) (hbb : bb ≠ n0) (hn : n0 ≤ W.heap.size) (hown : w1.ownsRow n0 100 1 v' (rs.length + xs.length) (ints rs ++ ints xs)) (hg : (W.alloc tmp).grownBy w1 v8.ownBlock) :
    _root_.Go.Boxed w1 n0 120 v8 ∧ ChoB n0 (w1.setCell ⟨n0, 0, none⟩ v') (rs ++ xs) ms v' v9 ∧ BoxB (w1.setCell ⟨n0, 0, none⟩ v') bb cs T ∧ KeepsOthers W (w1.setCell ⟨n0, 0, none⟩ v') ∧ Below n0 W (w1.setCell ⟨n0, 0, none⟩ v') := by
  obtain ⟨a1, a2, a3, a4, a5⟩ := _root_.Go.Boxed.appended h.b8 (by decide) h.r8 hn (Nat.le_refl _) hown hg
  refine ⟨a1, ⟨a2, ?_, by rw [List.length_append, ints_append]; exact a3, ?_⟩, ?_, a4, a5⟩
  · exact (keep_app hg h.b9.lt (fun e => h.b9.not_row (by decide) h.r8 e.symm) (by omega)).trans h.b9
  · exact own_same h.r9 fun g hg9 => keep_app hg (h.r9.lt g hg9).2 (fun e => h.n8 g e hg9) (fun e => h.b8.not_row (by decide) h.r9 (by rw [← e]; exact hg9.symm))
  · exact (keep_app hg hbits.lt (box_lt_ne hbits hT h.r8) hbb).trans hbits
theorem ChoB.app9 {n0 bb : Nat} {W w1 : World} {rs ms xs : List Int} {v8 v9 v' : Value} {tmp : Obj} (h : ChoB n0 W rs ms v8 v9) {cs : List Value} {T : TypeId} (hbits : BoxB W bb cs T) (hT : T ≠ 3) (hbb : bb ≠ n0 + 1) (hn : n0 ≤ W.heap.size) (hown : w1.ownsRow n0 3 1 v' (ms.length + xs.length) (ints ms ++ ints xs)) (hg : (W.alloc tmp).grownBy w1 v9.ownBlock) :
    _root_.Go.Boxed w1 (n0 + 1) 22 v9 ∧ ChoB n0 (w1.setCell ⟨n0 + 1, 0, none⟩ v') rs (ms ++ xs) v8 v' ∧ BoxB (w1.setCell ⟨n0 + 1, 0, none⟩ v') bb cs T ∧ KeepsOthers W (w1.setCell ⟨n0 + 1, 0, none⟩ v') ∧ Below n0 W (w1.setCell ⟨n0 + 1, 0, none⟩ v') := by
  obtain ⟨a1, a2, a3, a4, a5⟩ := _root_.Go.Boxed.appended h.b9 (by decide) h.r9 hn (Nat.le_succ _) hown hg
  refine ⟨a1, ⟨?_, a2, ?_, by rw [List.length_append, ints_append]; exact a3⟩, ?_, a4, a5⟩
  · exact (keep_app hg h.b8.lt (fun e => h.b8.not_row (by decide) h.r9 e.symm) (by omega)).trans h.b8
  · exact own_same h.r8 fun g hg8 => keep_app hg (h.r8.lt g hg8).2 (fun e => h.n8 g hg8 e) (fun e => h.b9.not_row (by decide) h.r8 (by rw [← e]; exact hg8.symm))
  · exact (keep_app hg hbits.lt (box_lt_ne hbits hT h.r9) hbb).trans hbits
theorem ChoB.grown {n0 : Nat} {W W' : World} {rs ms : List Int} {v8 v9 : Value} {row : Option Nat} (h : ChoB n0 W rs ms v8 v9) (hg : W.grownBy W' row) (hr : ∀ r, row = some r → ∃ o : Obj, W.heap[r]? = some o ∧ o.isCells = false) : ChoB n0 W' rs ms v8 v9 := by
  have nb : ∀ b, (∃ cs T fr, W.heap[b]? = some (.cells cs T fr)) → some b ≠ row := fun b ⟨cs, T, fr, hc⟩ e => by
    obtain ⟨o, ho, hc2⟩ := hr b e.symm
    rw [hc] at ho; cases ho; cases hc2
  refine ⟨h.b8.kept hg (nb _ ⟨_, _, _, h.b8⟩), h.b9.kept hg (nb _ ⟨_, _, _, h.b9⟩), own_same h.r8 fun g hg8 => ?_, own_same h.r9 fun g hg9 => ?_⟩
  · rcases h.r8.2 with ⟨e, _⟩ | ⟨g8, c8, cur8, e8, _, hgg, _⟩
    · rw [e] at hg8; simp [Value.ownBlock] at hg8
    · rw [e8] at hg8; simp [Value.ownBlock] at hg8; subst hg8
      exact hg.block _ (lt_of_block hgg) (nb _ ⟨_, _, _, hgg⟩)
  · rcases h.r9.2 with ⟨e, _⟩ | ⟨g8, c8, cur8, e8, _, hgg, _⟩
    · rw [e] at hg9; simp [Value.ownBlock] at hg9
    · rw [e8] at hg9; simp [Value.ownBlock] at hg9; subst hg9
      exact hg.block _ (lt_of_block hgg) (nb _ ⟨_, _, _, hgg⟩)
theorem Cho.grown {w5 W W' : World} {n0 bb m : Nat} {rs ms : List Int} {row : Option Nat} (h : Cho w5 n0 bb m rs ms W) (hg : W.grownBy W' row) (hr : ∀ r, row = some r → n0 ≤ r ∧ ∃ o : Obj, W.heap[r]? = some o ∧ o.isCells = false) : Cho w5 n0 bb m rs ms W' := by
  obtain ⟨v8, v9, hb⟩ := h.bx
  refine ⟨?_, h.bits.grown hg (fun r e => (hr r e).2), v8, v9, hb.grown hg (fun r e => (hr r e).2)⟩
  exact (h.bel.grown hg (Nat.le_trans (Nat.le_of_lt hb.b8.lt) (Nat.le_refl _)) (fun r e => (hr r e).1))
section
variable {F : Fence} {nF : Nat} {ops : Array Oper} {rest : List Oper} {o : Oper} {a : Act} {Q : Exit → Act → World → Prop} {W : World} {b : Nat}
/-- A slice is stored into its box. -/
theorem exec_storeB {T T0 : TypeId} (x y : Operand) (hop : o.op = .store T x y) (hx : a.eval x = .pointer (some ⟨b, 0, none⟩)) {ad : Option Addr} {n c : Nat} (hy : a.eval y = .slice ad n c) (hi : (Tryd.prog.info? T).map (·.size) = some 1) {v0 : Value} (hb : _root_.Go.Boxed W b T0 v0) :
    (execOp a.eval o).run Tryd.prog W = .ok .skip (W.setCell ⟨b, 0, none⟩ (.slice ad n c)) := by
  have h1 := hb.cell
  have h2 := hb.frozen
  have := run_storeCells_cells (P := Tryd.prog) b 0 [.slice ad n c] 0 W (fun j hj => by obtain rfl : j = 0 := (by simpa using hj); simp [h1]) (fun j hj => by obtain rfl : j = 0 := (by simpa using hj); simp [h2]) (fun v hv => by simp at hv; subst hv; rfl)
  cases hq : Tryd.prog.info? T with
  | none => simp [hq] at hi
  | some i =>
    have hs : i.size = 1 := by simpa [hq] using hi
    unfold execOp
    simp [hop, hx, hy, Instr.storeAt, Instr.sureAddr, storeVar, _root_.Go.sizeOf, typeInfo, hq, Value.cells, hs, this, World.setCells]
theorem wpIn_storeB {T T0 : TypeId} (x y : Operand) (hop : o.op = .store T x y) (hg : o.guard = none) (hx : a.eval x = .pointer (some ⟨b, 0, none⟩)) {ad : Option Addr} {n c : Nat} (hy : a.eval y = .slice ad n c) (hi : (Tryd.prog.info? T).map (·.size) = some 1) {v0 : Value} (hb : _root_.Go.Boxed W b T0 v0)
    (hk : ∀ W', W' = W.setCell ⟨b, 0, none⟩ (.slice ad n c) → wpListIn F nF Tryd.prog ops Q rest (a.put o.dst undef) W') : wpListIn F nF Tryd.prog ops Q (o :: rest) a W := by
  refine wpListIn_plain hg fun K' hK' => ?_
  unfold Oper.wpIn
  refine ⟨by simp [Oper.about, hop], ?_⟩
  rw [Oper.semAt_plain F _ _ (by rw [hop]; intro c hc'; cases hc'), exec_storeB x y hop hx hy hi hb]
  exact hK' _ _ (hk _ rfl)
end
theorem infoRule : (Tryd.prog.info? 100).map (fun i => (i.zero, i.size, i.bytes)) = some (some (.int .i64 0), 1, 8) := by kernel_rfl
theorem infoRule' : ∃ i, Tryd.prog.info? 100 = some i ∧ i.zero = some (.int .i64 0) ∧ i.size = 1 ∧ i.bytes = 8 := by
  obtain ⟨i, hi, h⟩ := Option.map_eq_some_iff.1 infoRule
  simp only [Prod.mk.injEq] at h
  exact ⟨i, hi, h⟩
theorem infoInt1 : ∃ i, Tryd.prog.info? 3 = some i ∧ i.zero = some (.int .i64 0) ∧ i.size = 1 ∧ i.bytes = 8 := by
  obtain ⟨i, hi, h⟩ := Option.map_eq_some_iff.1 infoInt
  simp only [Prod.mk.injEq] at h
  exact ⟨i, hi, h⟩
theorem cho_new (W : World) : ChoB W.heap.size ((W.alloc (.cells #[.slice none 0 0] 120)).alloc (.cells #[.slice none 0 0] 22)) [] [] (.slice none 0 0) (.slice none 0 0) := by
  refine ⟨(_root_.Go.Boxed.new W _ _).alloc _, ?_, World.ownsRow_nil _ _ _ _, World.ownsRow_nil _ _ _ _⟩
  have := _root_.Go.Boxed.new (W.alloc (.cells #[.slice none 0 0] 120)) 22 (.slice none 0 0)
  simpa using this
theorem cell_lit2 (W : World) (T : TypeId) (x y : Int) : ∀ j u, (ints [x, y])[j]? = some u → (W.alloc (.cells #[.int .i64 x, .int .i64 y] T)).cell? ((⟨W.heap.size, 0, none⟩ : Addr).add j) = some u := fun j u hu => by
  rw [Addr.add_mid]
  match j, hu with
  | 0, hu => cases hu; exact World.cell?_alloc_at _ _ _ _ rfl
  | 1, hu => cases hu; exact World.cell?_alloc_at _ _ _ _ rfl
  | j + 2, hu => simp [ints] at hu
theorem cell_lit1 (W : World) (T : TypeId) (x : Int) : ∀ j u, (ints [x])[j]? = some u → (W.alloc (.cells #[.int .i64 x] T)).cell? ((⟨W.heap.size, 0, none⟩ : Addr).add j) = some u := fun j u hu => by
  rw [Addr.add_mid]
  match j, hu with
  | 0, hu => cases hu; exact World.cell?_alloc_at _ _ _ _ rfl
  | j + 1, hu => simp [ints] at hu
theorem own_base {w : World} {base base' : Nat} {e : TypeId} {size : Nat} {v : Value} {n : Nat} {xs : List Value} (ho : w.ownsRow base e size v n xs) (hb : base' ≤ base) : w.ownsRow base' e size v n xs := by
  refine ⟨ho.1, ?_⟩
  rcases ho.2 with hn' | ⟨g, cap, cur, rfl, hbg, hg, rest⟩
  · exact .inl hn'
  · exact .inr ⟨g, cap, cur, rfl, Nat.le_trans hb hbg, hg, rest⟩
theorem sel_upto {rows : List ND} {s : SQ} (hle : rows.length ≤ 1024) (hl : ∀ i, s.left.testBit i = true → i < rows.length) {ys : List (Mem s.left)} (hy : ys.map (·.1) = upto s.left 1024) :
    ((ys.filter fun y => onP rows s y.1 == 13).map fun y => y.1) = (List.range rows.length).filter (fun i => s.left.testBit i && onP rows s i == 13) := by
  have h1 : ((ys.filter fun y => onP rows s y.1 == 13).map fun y => y.1) = (ys.map (·.1)).filter fun i => onP rows s i == 13 := by
    rw [List.filter_map]; rfl
  rw [h1, hy, upto_skip s.left hle (fun j h1 h2 => by
    cases h : s.left.testBit j with
    | false => rfl
    | true => have := hl j h; omega)]
  unfold upto
  rw [List.filter_filter]
  congr 1
  funext i
  rw [Bool.and_comm]
def ChoicesPost (w : World) (l : List (Int × Nat)) (e : Ending) (w' : World) : Prop :=
  ∃ v8 v9, e = .returned (.tuple #[v8, v9, .int .i64 0]) ∧ w'.ownsRow w.heap.size 100 1 v8 l.length (ints (l.map (·.1))) ∧ w'.ownsRow w.heap.size 3 1 v9 l.length (ints (l.map fun c => (c.2 : Int))) ∧ Below w.heap.size w w'
set_option maxRecDepth 100000 in
set_option maxHeartbeats 2000000 in
theorem choices_any (k : Nat) (ow : Own) (w : World) (t : Value) (rows : List ND) (h : Tab k ow w t rows) (hT : TabG w) (s : SQ) (hs : Wf rows s) (h14 : (applyP rows s).1 = 14) (h4 : (rowAt rows s.goal).kind = 4) :
    Calls Tryd.prog 53 #[t, .agg (seqL s.left s.goal).toArray] w (ChoicesPost w (choicesP rows s)) := by
  obtain ⟨pb, rfl⟩ : ∃ pb, t = .pointer (some ⟨pb, 0, none⟩) := by obtain ⟨pb, _, _, e, _⟩ := h; exact ⟨pb, e⟩
  have HB0 := Lib.hid (below_trans (below_alloc w (.cells #[.pointer (some ⟨pb, 0, none⟩)] 24)) (below_alloc _ (.cells (seqL s.left s.goal).toArray 81)))
  have HQ0 : Hid (BoxB ((w.alloc (.cells #[.pointer (some ⟨pb, 0, none⟩)] 24)).alloc (.cells (seqL s.left s.goal).toArray 81)) (w.heap.size + 1) (seqL s.left s.goal) 81) := by
    have := BoxB.new (w.alloc (.cells #[.pointer (some ⟨pb, 0, none⟩)] 24)) (seqL s.left s.goal) 81
    show BoxB _ _ _ _
    simpa using this
  have HP0 : Hid (BoxB ((w.alloc (.cells #[.pointer (some ⟨pb, 0, none⟩)] 24)).alloc (.cells (seqL s.left s.goal).toArray 81)) w.heap.size [.pointer (some ⟨pb, 0, none⟩)] 24) :=
    (BoxB.new w [.pointer (some ⟨pb, 0, none⟩)] 24).below (below_alloc _ (.cells (seqL s.left s.goal).toArray 81))
  have HL : Hid (∀ W, Below w.heap.size w W → Calls Tryd.prog 51 #[.pointer (some ⟨pb, 0, none⟩), .agg (seqL s.left s.goal).toArray] W fun e w' => e = .returned (.int .i64 0) ∧ Below W.heap.size W w') := fun W hb => look_ok k ow W _ rows (h.below hb) (hT.below hb) s hs
  have HA : Hid (∀ W, Below w.heap.size w W → Calls Tryd.prog 52 #[.pointer (some ⟨pb, 0, none⟩), .agg (seqL s.left s.goal).toArray] W fun e w' => e = .returned (.agg #[.int .i64 14, .int .i64 ((applyP rows s).2 : Int)]) ∧ Below W.heap.size W w') := fun W hb => by
    have := apply_any k ow W _ rows (h.below hb) (hT.below hb) s hs
    rw [h14] at this
    exact this
  obtain ⟨gn, hgn⟩ : ∃ gn, rowAt rows s.goal = gn := ⟨_, rfl⟩
  have HN : Hid (∀ W, Below w.heap.size w W → Calls Tryd.prog 66 #[.pointer (some ⟨pb, 0, none⟩), .int .i64 (s.goal : Int)] W fun e w' => e = .returned (.agg #[.int .i64 gn.kind, .string gn.name, .int .i64 gn.l, .int .i64 gn.r]) ∧ Below W.heap.size W w') := rnode_is k ow w _ rows h s.goal hs.goal gn hgn
  rw [hgn] at h4
  obtain ⟨gk, gm, gl, gr⟩ := gn
  simp only at h4 HN
  subst h4
  have HGN := Lib.hid hgn
  have H := Lib.hid h; have HT := Lib.hid hT; have HW := Lib.hid hs
  have hfk := fun W => fieldKind (.int .i64 4) (.string gm) (.int .i64 gl) (.int .i64 gr) W
  clear h hT hs h14 hgn
  refine (callsIn_wide (n := 8)).1 ?_
  refine callsIn_of_wp_marks Tryd.func53 rfl trivial ?_ rfl
  simp only [Tryd.ntmps53, List.size_toArray, List.length_cons, List.length_nil, Nat.reduceAdd, Nat.reduceSub, Array.replicate_succ, Array.replicate_zero, List.push_toArray, List.append_toArray, List.nil_append, List.cons_append]
  obtain ⟨i8, i81, i82, i83, i84⟩ := infoRule'
  obtain ⟨i9, i91, i92, i93, i94⟩ := infoInt1
  have hff : ∀ W, (Instr.field 118 (.agg #[.int .i64 14, .int .i64 ((applyP rows s).2 : Int)]) 0).run Tryd.prog W = .ok (.int .i64 14) W := fun W => by kernel_rfl
  gi_wp2_with (first
    | (refine wpIn_loadSeq (.tmp 3) rfl rfl rfl HQ0.out ?_)
    | (refine ⟨trivial, ?_⟩; gi_at_call 51; refine (callsIn_wide.2 (HL.out _ HB0.out)).mono ?_; clear HL; rintro e W1 ⟨rfl, hb1⟩; have HB1 := Lib.hid (below_trans HB0.out hb1); have HB11 := Lib.hid (below_trans (below_alloc W1 (.cells #[.slice none 0 0] 120)) (below_alloc _ (.cells #[.slice none 0 0] 22))); have HQ1 := Lib.hid ((HQ0.out.below hb1).below HB11.out); have HP1 := Lib.hid ((HP0.out.below hb1).below HB11.out); have c1 := HP1.out.cell (i := 0) rfl; have HC1 := Lib.hid (cho_new W1); have HS1 : Hid (w.heap.size + 2 ≤ W1.heap.size) := (by have := hb1.size; simp at this; exact this); clear hb1 HQ0 HP0)
    | (refine wpIn_loadSeq (.tmp 3) rfl rfl rfl HQ1.out ?_)
    | (refine ⟨trivial, ?_⟩; gi_at_call 52; refine (callsIn_wide.2 (HA.out _ (below_trans HB1.out HB11.out))).mono ?_; clear HA; rintro e W2 ⟨rfl, hb2⟩; have HB2 := Lib.hid (below_trans HB11.out hb2); have HQ2 := Lib.hid (HQ1.out.below hb2); have HP2 := Lib.hid (HP1.out.below hb2); clear c1; have c1 := HP2.out.cell (i := 0) rfl; have c16 := HQ2.out.cell (seqL_goal s.left s.goal); have HC2 := Lib.hid (HC1.out.below hb2); clear hb2 HQ1 HP1)
    | (refine ⟨trivial, ?_⟩; gi_at_call 66; refine (callsIn_wide.2 (HN.out _ (below_trans HB1.out HB2.out))).mono ?_; clear HN; rintro e W3 ⟨rfl, hb3⟩; have HB3 := Lib.hid (below_trans HB2.out hb3); have HQ3 := Lib.hid (HQ2.out.below hb3); have HP3 := Lib.hid (HP2.out.below hb3); have HC3 := Lib.hid (HC2.out.below hb3); have cb8 := HC3.out.b8.cell; clear c1 c16 hb3 HQ2 HP2)
    | (gi_at_builtin; go_loud (refine wpListIn_append_own _ rfl (.tmp 28) (.tmp 29) 120 rfl W1.heap.size 100 i8 (.int .i64 0) 1 8 Tryd.underlying120 i81 i82 i83 i84 rfl (by decide) (.slice none 0 0) 0 [] rfl (HC3.out.below (below_alloc W3 _)).r8 ⟨W3.heap.size, 0, none⟩ 2 2 (ints [11, 12]) rfl rfl (fun j u hu => cell_lit2 W3 100 11 12 j u hu) (by simp [ints, Value.oneCell']) (by decide) (by decide) (Nat.le_trans HB3.out.size (by simp)) ?_; intro v8 w4 hown hgr hnil; obtain ⟨g8, q8, rfl⟩ := ownsRow_succ (k := 1) (by simpa using hown); have HO4 := Lib.hid (HC3.out.app8 (xs := [11, 12]) HQ3.out (by decide) (by have := HS1.out; omega) HB3.out.size hown hgr); clear cb8 hown hgr hnil))
    | (refine wpIn_storeB (.tmp 8) (.tmp 30) rfl rfl rfl rfl (by kernel_rfl) HO4.out.1 ?_; intro W5 hw5; have HC5 : Hid (ChoB W1.heap.size W5 [11, 12] [] _ _) := hw5 ▸ HO4.out.2.1; have HQ5 : Hid (BoxB W5 (w.heap.size + 1) (seqL s.left s.goal) 81) := hw5 ▸ HO4.out.2.2.1; have HB5 : Hid (Below W1.heap.size W3 W5) := hw5 ▸ HO4.out.2.2.2.2; have cb9 := HC5.out.b9.cell; have c16 := HQ5.out.cell (seqL_goal s.left s.goal); clear hw5 HO4)
    | (gi_at_builtin; go_loud (refine wpListIn_append_own _ rfl (.tmp 31) (.tmp 36) 22 rfl W1.heap.size 3 i9 (.int .i64 0) 1 8 Tryd.underlying22 i91 i92 i93 i94 rfl (by decide) (.slice none 0 0) 0 [] rfl (HC5.out.below (below_alloc W5 _)).r9 ⟨W5.heap.size, 0, none⟩ 2 2 (ints [(s.goal : Int), (s.goal : Int)]) rfl rfl (fun j u hu => cell_lit2 W5 3 _ _ j u hu) (by simp [ints, Value.oneCell']) (by decide) (by decide) (by have := HB3.out.size; have := HB5.out.size; simp; omega) ?_; intro v9 w6 hown hgr hnil; obtain ⟨g9, q9, rfl⟩ := ownsRow_succ (k := 1) (by simpa using hown); have HO6 := Lib.hid (HC5.out.app9 (xs := [(s.goal : Int), (s.goal : Int)]) HQ5.out (by decide) (by have := HS1.out; omega) (by have := HB3.out.size; have := HB5.out.size; omega) hown hgr); clear cb9 c16 hown hgr hnil))
    | (refine wpIn_storeB (.tmp 9) (.tmp 37) rfl rfl rfl rfl (by kernel_rfl) HO6.out.1 ?_; intro W7 hw7; have HC7 : Hid (ChoB W1.heap.size W7 [11, 12] [(s.goal : Int), (s.goal : Int)] _ _) := hw7 ▸ HO6.out.2.1; have HQ7 : Hid (BoxB W7 (w.heap.size + 1) (seqL s.left s.goal) 81) := hw7 ▸ HO6.out.2.2.1; have HB7 : Hid (Below W1.heap.size W3 W7) := HB5.out.trans (hw7 ▸ HO6.out.2.2.2.2); clear hw7 HO6)
    | (refine wpIn_loadLeft (.tmp 38) rfl rfl rfl HQ7.out ?_)
    | (refine ⟨trivial, ?_⟩; gi_at_call 38; refine (all_wide _ _).mono ?_; rintro e w8 ⟨rfl, rfl⟩))
  have HRS : Hid (∃ v8 v9 rs ms, ChoB W1.heap.size W7 rs ms v8 v9 ∧ rs = [11, 12] ∧ ms = [(s.goal : Int), (s.goal : Int)]) := ⟨_, _, _, _, HC7.out, rfl, rfl⟩
  clear HC7
  obtain ⟨rs, ms, HLEN, HC7, HBASE⟩ : ∃ rs ms : List Int, Hid (rs.length ≤ 2 ∧ ms.length ≤ 2) ∧ Hid (∃ v8 v9, ChoB W1.heap.size W7 rs ms v8 v9) ∧ Hid (∀ l : List Nat, l = (List.range rows.length).filter (fun i => s.left.testBit i && onP rows s i == 13) → (choicesP rows s).map (·.1) = rs ++ l.map (fun _ => (13 : Int)) ∧ (choicesP rows s).map (fun c => (c.2 : Int)) = ms ++ l.map (fun i : Nat => (i : Int))) := by
    obtain ⟨v8, v9, rs, ms, hc, rfl, rfl⟩ := HRS.out
    refine ⟨_, _, ⟨by decide, by simp⟩, ⟨v8, v9, hc⟩, fun l hl => ?_⟩
    unfold choicesP
    rw [HGN.out, ← hl]
    simp
  clear HRS hfk hff HGN
  have HB8 : Hid (Below W1.heap.size W1 (W7.alloc (.cells (bitsV s.left).toArray 72))) := ((HB3.out.trans (HB7.out.mono (Nat.le_refl _))).trans ((below_alloc W7 _).mono (Nat.le_trans HB3.out.size HB7.out.size)))
  have HI0 : Hid (Cho (W7.alloc (.cells (bitsV s.left).toArray 72)) W1.heap.size W7.heap.size s.left rs ms (W7.alloc (.cells (bitsV s.left).toArray 72))) := by
    obtain ⟨v8, v9, hc⟩ := HC7.out
    exact ⟨Below.refl _ _, BoxB.new W7 (bitsV s.left) 72, v8, v9, hc.below (below_alloc _ _)⟩
  have HQ8 := Lib.hid (HQ7.out.below (below_alloc W7 (.cells (bitsV s.left).toArray 72)))
  have HLT : Hid (W1.heap.size + 1 < W7.heap.size) := by obtain ⟨v8, v9, hc⟩ := HC7.out; exact hc.b9.lt
  have HSZ : Hid (W7.heap.size < (W7.alloc (.cells (bitsV s.left).toArray 72)).heap.size) := by show W7.heap.size < _; simp
  have HLE : Hid (W1.heap.size ≤ W7.heap.size) := Nat.le_trans HB3.out.size HB7.out.size
  have HP8 : Hid (BoxB (W7.alloc (.cells (bitsV s.left).toArray 72)) w.heap.size [.pointer (some ⟨pb, 0, none⟩)] 24) := ((HB7.out.trans ((below_alloc W7 _).mono HLE.out)).block w.heap.size (by have := HS1.out; omega)).trans HP3.out
  generalize (W7.alloc (.cells (bitsV s.left).toArray 72)) = W8 at *
  have HZ0 : Hid (∀ g, (g = 0 ∨ g = W7.heap.size) → g < W8.heap.size) := fun g hg => by
    have := HSZ.out
    rcases hg with rfl | rfl <;> omega
  have HTG : Hid (TabG W8) := HT.out.below (HB1.out.trans (HB8.out.mono HB1.out.size))
  refine' wpIn_rangeFunc_ownG (I := fun pre W => Cho W8 W1.heap.size W7.heap.size s.left (rs ++ (pre.filter fun y => onP rows s y.1 == 13).map fun _ => (13 : Int)) (ms ++ (pre.filter fun y => onP rows s y.1 == 13).map fun y => ((y.1 : Nat) : Int)) W) (Ix := fun _ _ _ => False) (Kp := HoldS fun g => g = 0 ∨ g = W7.heap.size)
    rfl (by omega) (gf := 42) (lb := #[.pointer (some ⟨W7.heap.size, 0, none⟩)]) rfl trivial (enters_of Tryd.func42 (by kernel_rfl) rfl)
    (all_stops _ (by omega) W7.heap.size s.left _ (.inl rfl) (.inr rfl) W8 HZ0.out HTG.out HI0.out.bits) holdS_t (holdS_b HZ0.out) (Below.refl _ _) (fun _ => rfl)
    (fun _ _ _ _ hs hg hr => hs.grown hg (fun r e => ⟨Nat.le_trans (Nat.le_of_lt (Nat.lt_of_le_of_lt HLE.out HSZ.out)) (hr r e).1, (hr r e).2⟩)) (fun _ _ _ _ _ hs _ _ => hs) (by simpa using HI0.out) _ ?assign ?body ?done ?stop
  case assign =>
    intro l x W K hK
    unfold memV
    gi_wp2
    exact hK
  case stop => rintro _ _ _ _ _ _ h _; exact h.elim
  case body =>
    rintro l pre x W hI hpl
    have HI := Lib.hid hI
    have HLR : Hid ((rs ++ (pre.filter fun y => onP rows s y.1 == 13).map fun _ => (13 : Int)).length ≤ 1030 ∧ (ms ++ (pre.filter fun y => onP rows s y.1 == 13).map fun y => ((y.1 : Nat) : Int)).length ≤ 1030) := by
      have h1 := HLEN.out
      have h2 := List.length_filter_le (fun y : Mem s.left => onP rows s y.1 == 13) pre
      simp only [List.length_append, List.length_map]
      constructor <;> omega
    clear hpl
    have hlt : x.1 < rows.length := HW.out.left _ x.2.2
    have hbx : BoxB W w.heap.size [.pointer (some ⟨pb, 0, none⟩)] 24 := (HI.out.bel.block w.heap.size (by have := HS1.out; omega)).trans HP8.out
    have c1 : W.cell? ⟨w.heap.size, 0, none⟩ = some (.pointer (some ⟨pb, 0, none⟩)) := hbx.cell (i := 0) rfl
    clear hbx
    have HQW : Hid (BoxB W (w.heap.size + 1) (seqL s.left s.goal) 81) := (HI.out.bel.block _ (by have := HS1.out; omega)).trans HQ8.out
    have HTW : Hid (Tab k ow W (.pointer (some ⟨pb, 0, none⟩)) rows) := H.out.below (HB1.out.trans ((HB8.out.trans HI.out.bel).mono HB1.out.size))
    have HO := Lib.hid (on_any k ow W _ rows HTW.out s s.goal x.1 hlt)
    obtain ⟨kd, hkd⟩ : ∃ kd, kd = onP rows s x.1 := ⟨_, rfl⟩
    rw [← hkd] at HO
    have HK := Lib.hid hkd
    have HN0 : Hid (W1.heap.size ≤ W.heap.size) := Nat.le_trans HLE.out (Nat.le_trans (Nat.le_of_lt HSZ.out) HI.out.bel.size)
    clear hI hlt hkd
    by_cases h13 : kd = 13
    · subst h13
      obtain ⟨v8, v9, hb⟩ := HI.out.bx
      have HC := Lib.hid hb
      clear hb
      gi_wp2_with (first
        | (refine wpIn_loadSeq (.tmp 3) rfl rfl rfl HQW.out ?_)
        | (refine ⟨trivial, ?_⟩; gi_at_call 70; refine (CallsIn.inRound l (callsIn_wide.2 HO.out)).mono ?_; rintro e W6 ⟨rfl, hb6⟩; have HB6 := Lib.hid hb6; have HC6 := Lib.hid (HC.out.below hb6); have HBT6 := Lib.hid (HI.out.bits.below hb6); have cb8 := HC6.out.b8.cell; clear hb6)
        | (gi_at_builtin; go_loud (refine wpListIn_append_own _ rfl (.tmp 47) (.tmp 48) 120 rfl W1.heap.size 100 i8 (.int .i64 0) 1 8 Tryd.underlying120 i81 i82 i83 i84 rfl (by decide) v8 _ _ rfl (HC6.out.below (below_alloc W6 _)).r8 ⟨W6.heap.size, 0, none⟩ 1 1 (ints [13]) rfl rfl (fun j u hu => cell_lit1 W6 100 13 j u hu) (by simp [ints, Value.oneCell']) (by have := HLR.out; unfold maxLen; omega) (by have := HLR.out; omega) (by have := HB6.out.size; have := HN0.out; simp; omega) ?_; intro v8' w7 hown hgr hnil; obtain ⟨g8, q8, rfl⟩ := ownsRow_succ hown; have HO7 := Lib.hid (HC6.out.app8 (xs := [13]) HBT6.out (by decide) (by have := HLT.out; omega) (by have := HB6.out.size; have := HN0.out; omega) hown hgr); clear cb8 hown hgr hnil))
        | (refine wpIn_storeB (.tmp 8) (.tmp 49) rfl rfl rfl rfl (by kernel_rfl) HO7.out.1 ?_; intro W8' hw; have HC8 := Lib.hid HO7.out.2.1; have HBT8 := Lib.hid HO7.out.2.2.1; have HK8 := Lib.hid HO7.out.2.2.2.1; have HB8' := Lib.hid HO7.out.2.2.2.2; rw [← hw] at HC8 HBT8 HK8 HB8'; have cb9 := HC8.out.b9.cell; clear hw HO7)
        | (gi_at_builtin; go_loud (refine wpListIn_append_own _ rfl (.tmp 50) (.tmp 52) 22 rfl W1.heap.size 3 i9 (.int .i64 0) 1 8 Tryd.underlying22 i91 i92 i93 i94 rfl (by decide) v9 _ _ rfl (HC8.out.below (below_alloc W8' _)).r9 ⟨W8'.heap.size, 0, none⟩ 1 1 (ints [(x.1 : Int)]) rfl rfl (fun j u hu => cell_lit1 W8' 3 _ j u hu) (by simp [ints, Value.oneCell']) (by have := HLR.out; unfold maxLen; omega) (by have := HLR.out; omega) (by have := HB6.out.size; have := HN0.out; have := HB8'.out.size; simp; omega) ?_; intro v9' w9 hown hgr hnil; obtain ⟨g9, q9, rfl⟩ := ownsRow_succ hown; have HO9 := Lib.hid (HC8.out.app9 (xs := [(x.1 : Int)]) HBT8.out (by decide) (by have := HLT.out; omega) (by have := HB6.out.size; have := HN0.out; have := HB8'.out.size; omega) hown hgr); clear cb9 hown hgr hnil))
        | (refine wpIn_storeB (.tmp 9) (.tmp 53) rfl rfl rfl rfl (by kernel_rfl) HO9.out.1 ?_; intro W10 hw; have HC10 := Lib.hid HO9.out.2.1; have HBT10 := Lib.hid HO9.out.2.2.1; have HK10 := Lib.hid HO9.out.2.2.2.1; have HB10 := Lib.hid HO9.out.2.2.2.2; rw [← hw] at HC10 HBT10 HK10 HB10; clear hw HO9))
      have hsel : (pre ++ [x]).filter (fun y => onP rows s y.1 == 13) = pre.filter (fun y => onP rows s y.1 == 13) ++ [x] := by rw [List.filter_append]; simp [← HK.out]
      have hk : KeepsFrom W8.heap.size W W10 := ((KeepsFrom.of_grownBy (row := none) (grown_of_below HB6.out) (fun j e => by cases e)).trans (HK8.out.from _)).trans (HK10.out.from _)
      have hbl : Below W1.heap.size W W10 := ((HB6.out.mono HN0.out).trans HB8'.out).trans HB10.out
      have hbx : ∃ v8 v9, ChoB W1.heap.size W10 (rs ++ ((pre ++ [x]).filter fun y => onP rows s y.1 == 13).map fun _ => (13 : Int)) (ms ++ ((pre ++ [x]).filter fun y => onP rows s y.1 == 13).map fun y => ((y.1 : Nat) : Int)) v8 v9 := by
        rw [hsel, List.map_append, List.map_append, ← List.append_assoc, ← List.append_assoc]
        exact ⟨_, _, HC10.out⟩
      refine ⟨hk, fun g hg => ?_, HI.out.bel.trans hbl, HBT10.out, hbx⟩
      rcases hg with rfl | rfl
      · exact hbl.block 0 (by have := HS1.out; omega)
      · exact HBT10.out.trans HI.out.bits.symm
    · have h13' : (kd == 13) = false := by simpa using h13
      have HH := Lib.hid h13
      clear h13
      gi_wp2_with (first
        | (refine wpIn_loadSeq (.tmp 3) rfl rfl rfl HQW.out ?_)
        | (refine ⟨trivial, ?_⟩; gi_at_call 70; refine (CallsIn.inRound l (callsIn_wide.2 HO.out)).mono ?_; rintro e W6 ⟨rfl, hb6⟩; have HB6 := Lib.hid hb6; clear hb6))
      have hsel : (pre ++ [x]).filter (fun y => onP rows s y.1 == 13) = pre.filter (fun y => onP rows s y.1 == 13) := by rw [List.filter_append]; simp [← HK.out, HH.out]
      refine ⟨KeepsFrom.of_grownBy (row := none) (grown_of_below HB6.out) (fun j e => by cases e), holdS_below (fun g hg => Nat.lt_of_lt_of_le (HZ0.out g hg) HI.out.bel.size) HB6.out, ?_⟩
      show Cho W8 W1.heap.size W7.heap.size s.left _ _ W6
      rw [hsel]
      obtain ⟨v8, v9, hb⟩ := HI.out.bx
      exact ⟨HI.out.bel.trans (HB6.out.mono HN0.out), HI.out.bits.below HB6.out, v8, v9, hb.below HB6.out⟩
  case done =>
    rintro D ys W hD hys hI hK
    have HI := Lib.hid hI
    obtain ⟨v8, v9, hb⟩ := HI.out.bx
    have HC := Lib.hid hb
    have cb8 := hb.b8.cell
    have cb9 := hb.b9.cell
    clear hb hI
    gi_wp2
    refine wpIn_region_quiet_lit rfl (by kernel_rfl) (by kernel_rfl) ?_
    repeat (
      refine wpQuietIn_step (by unfold Oper.askedIn; intros; trivial) (fun K hK => ?_)
      go_simp
      refine hK _ ?_; clear hK K)
    refine wpQuietIn_nil ?_
    intro _ hw'
    obtain ⟨nq, hw''⟩ := hw'
    subst hw''
    gi_wp2
    have hK8 : (W.drewN nq).heap[D]? = some (.deferred (some [])) := by simpa using hK
    have HC2' := (HC.out.below (below_drewN W nq)).grown (grownBy_putObj' (W.drewN nq) D (.deferred none)) (fun r e => by cases e; exact ⟨_, hK8, rfl⟩)
    have HDD : w.heap.size ≤ D := by have := HS1.out; have := HLE.out; have := HSZ.out; omega
    have hsl : ((ys.filter fun y => onP rows s y.1 == 13).map fun y => y.1) = (List.range rows.length).filter (fun i => s.left.testBit i && onP rows s i == 13) := sel_upto H.out.ok.le HW.out.left hys
    have hbs := HBASE.out _ hsl
    rw [List.map_map, List.map_map] at hbs
    refine ⟨by simp, .inl ⟨_, _, rfl, run_takeDeferred hK8, ?_⟩⟩
    refine ⟨.tuple #[v8, v9, .int .i64 0], by simp [results, Tryd.results53, go_sem], v8, v9, rfl, ?_, ?_, ?_⟩
    · rw [← List.length_map (f := fun c : Int × Nat => c.1), hbs.1]
      exact own_base HC2'.r8 (by have := HS1.out; omega)
    · rw [← List.length_map (f := fun c : Int × Nat => (c.2 : Int)), hbs.2]
      exact own_base HC2'.r9 (by have := HS1.out; omega)
    · exact ((HB1.out.trans ((HB8.out.trans HI.out.bel).mono HB1.out.size)).trans ((below_drewN W nq).mono (Nat.le_trans HB1.out.size (Nat.le_trans HB8.out.size HI.out.bel.size)))).trans (belowK_b (w := w) (Nat.le_refl _) (W.drewN nq) D _ _ HDD hK8 rfl rfl)
end Go.Dk
end

section
namespace Go.Dk
open Go.RowKit Go.Maps Go.MapKept Go.Shelf
open Go.Proofs hiding intOf
attribute [local go_sem] Oper.semAt_some
set_option maxRecDepth 100000 in
set_option maxHeartbeats 2000000 in
theorem choices_no (k : Nat) (ow : Own) (w : World) (t : Value) (rows : List ND) (h : Tab k ow w t rows) (hT : TabG w) (s : SQ) (hs : Wf rows s) (h14 : (applyP rows s).1 = 14) (h4 : (rowAt rows s.goal).kind ≠ 4) :
    Calls Tryd.prog 53 #[t, .agg (seqL s.left s.goal).toArray] w (ChoicesPost w (choicesP rows s)) := by
  obtain ⟨pb, rfl⟩ : ∃ pb, t = .pointer (some ⟨pb, 0, none⟩) := by obtain ⟨pb, _, _, e, _⟩ := h; exact ⟨pb, e⟩
  have HB0 := Lib.hid (below_trans (below_alloc w (.cells #[.pointer (some ⟨pb, 0, none⟩)] 24)) (below_alloc _ (.cells (seqL s.left s.goal).toArray 81)))
  have HQ0 : Hid (BoxB ((w.alloc (.cells #[.pointer (some ⟨pb, 0, none⟩)] 24)).alloc (.cells (seqL s.left s.goal).toArray 81)) (w.heap.size + 1) (seqL s.left s.goal) 81) := by
    have := BoxB.new (w.alloc (.cells #[.pointer (some ⟨pb, 0, none⟩)] 24)) (seqL s.left s.goal) 81
    show BoxB _ _ _ _
    simpa using this
  have HP0 : Hid (BoxB ((w.alloc (.cells #[.pointer (some ⟨pb, 0, none⟩)] 24)).alloc (.cells (seqL s.left s.goal).toArray 81)) w.heap.size [.pointer (some ⟨pb, 0, none⟩)] 24) :=
    (BoxB.new w [.pointer (some ⟨pb, 0, none⟩)] 24).below (below_alloc _ (.cells (seqL s.left s.goal).toArray 81))
  have HL : Hid (∀ W, Below w.heap.size w W → Calls Tryd.prog 51 #[.pointer (some ⟨pb, 0, none⟩), .agg (seqL s.left s.goal).toArray] W fun e w' => e = .returned (.int .i64 0) ∧ Below W.heap.size W w') := fun W hb => look_ok k ow W _ rows (h.below hb) (hT.below hb) s hs
  have HA : Hid (∀ W, Below w.heap.size w W → Calls Tryd.prog 52 #[.pointer (some ⟨pb, 0, none⟩), .agg (seqL s.left s.goal).toArray] W fun e w' => e = .returned (.agg #[.int .i64 14, .int .i64 ((applyP rows s).2 : Int)]) ∧ Below W.heap.size W w') := fun W hb => by
    have := apply_any k ow W _ rows (h.below hb) (hT.below hb) s hs
    rw [h14] at this
    exact this
  obtain ⟨gn, hgn⟩ : ∃ gn, rowAt rows s.goal = gn := ⟨_, rfl⟩
  have HN : Hid (∀ W, Below w.heap.size w W → Calls Tryd.prog 66 #[.pointer (some ⟨pb, 0, none⟩), .int .i64 (s.goal : Int)] W fun e w' => e = .returned (.agg #[.int .i64 gn.kind, .string gn.name, .int .i64 gn.l, .int .i64 gn.r]) ∧ Below W.heap.size W w') := rnode_is k ow w _ rows h s.goal hs.goal gn hgn
  rw [hgn] at h4
  obtain ⟨gk, gm, gl, gr⟩ := gn
  simp only at h4 HN
  have h4' : (gk == 4) = false := by simpa using h4
  have HK4 := Lib.hid h4
  have HGN := Lib.hid hgn
  have H := Lib.hid h; have HT := Lib.hid hT; have HW := Lib.hid hs
  have hfk := fun W => fieldKind (.int .i64 gk) (.string gm) (.int .i64 gl) (.int .i64 gr) W
  clear h hT hs h14 hgn h4
  refine (callsIn_wide (n := 8)).1 ?_
  refine callsIn_of_wp_marks Tryd.func53 rfl trivial ?_ rfl
  simp only [Tryd.ntmps53, List.size_toArray, List.length_cons, List.length_nil, Nat.reduceAdd, Nat.reduceSub, Array.replicate_succ, Array.replicate_zero, List.push_toArray, List.append_toArray, List.nil_append, List.cons_append]
  obtain ⟨i8, i81, i82, i83, i84⟩ := infoRule'
  obtain ⟨i9, i91, i92, i93, i94⟩ := infoInt1
  have hff : ∀ W, (Instr.field 118 (.agg #[.int .i64 14, .int .i64 ((applyP rows s).2 : Int)]) 0).run Tryd.prog W = .ok (.int .i64 14) W := fun W => by kernel_rfl
  gi_wp2_with (first
    | (refine wpIn_loadSeq (.tmp 3) rfl rfl rfl HQ0.out ?_)
    | (refine ⟨trivial, ?_⟩; gi_at_call 51; refine (callsIn_wide.2 (HL.out _ HB0.out)).mono ?_; clear HL; rintro e W1 ⟨rfl, hb1⟩; have HB1 := Lib.hid (below_trans HB0.out hb1); have HB11 := Lib.hid (below_trans (below_alloc W1 (.cells #[.slice none 0 0] 120)) (below_alloc _ (.cells #[.slice none 0 0] 22))); have HQ1 := Lib.hid ((HQ0.out.below hb1).below HB11.out); have HP1 := Lib.hid ((HP0.out.below hb1).below HB11.out); have c1 := HP1.out.cell (i := 0) rfl; have HC1 := Lib.hid (cho_new W1); have HS1 : Hid (w.heap.size + 2 ≤ W1.heap.size) := (by have := hb1.size; simp at this; exact this); clear hb1 HQ0 HP0)
    | (refine wpIn_loadSeq (.tmp 3) rfl rfl rfl HQ1.out ?_)
    | (refine ⟨trivial, ?_⟩; gi_at_call 52; refine (callsIn_wide.2 (HA.out _ (below_trans HB1.out HB11.out))).mono ?_; clear HA; rintro e W2 ⟨rfl, hb2⟩; have HB2 := Lib.hid (below_trans HB11.out hb2); have HQ2 := Lib.hid (HQ1.out.below hb2); have HP2 := Lib.hid (HP1.out.below hb2); clear c1; have c1 := HP2.out.cell (i := 0) rfl; have c16 := HQ2.out.cell (seqL_goal s.left s.goal); have HC2 := Lib.hid (HC1.out.below hb2); clear hb2 HQ1 HP1)
    | (refine ⟨trivial, ?_⟩; gi_at_call 66; refine (callsIn_wide.2 (HN.out _ (below_trans HB1.out HB2.out))).mono ?_; clear HN; rintro e W3 ⟨rfl, hb3⟩; have HB3 := Lib.hid (below_trans HB2.out hb3); have HQ3 := Lib.hid (HQ2.out.below hb3); have HP3 := Lib.hid (HP2.out.below hb3); have HC3 := Lib.hid (HC2.out.below hb3); have cb8 := HC3.out.b8.cell; clear c1 c16 hb3 HQ2 HP2)
    | (refine wpIn_loadLeft (.tmp 38) rfl rfl rfl HQ3.out ?_)
    | (refine ⟨trivial, ?_⟩; gi_at_call 38; refine (all_wide _ _).mono ?_; rintro e w8 ⟨rfl, rfl⟩))
  have HB7 : Hid (Below W1.heap.size W3 W3) := Below.refl _ _
  clear h4'
  have HRS : Hid (∃ v8 v9 rs ms, ChoB W1.heap.size W3 rs ms v8 v9 ∧ rs = [] ∧ ms = []) := ⟨_, _, _, _, HC3.out, rfl, rfl⟩
  obtain ⟨rs, ms, HLEN, HC37, HBASE⟩ : ∃ rs ms : List Int, Hid (rs.length ≤ 2 ∧ ms.length ≤ 2) ∧ Hid (∃ v8 v9, ChoB W1.heap.size W3 rs ms v8 v9) ∧ Hid (∀ l : List Nat, l = (List.range rows.length).filter (fun i => s.left.testBit i && onP rows s i == 13) → (choicesP rows s).map (·.1) = rs ++ l.map (fun _ => (13 : Int)) ∧ (choicesP rows s).map (fun c => (c.2 : Int)) = ms ++ l.map (fun i : Nat => (i : Int))) := by
    obtain ⟨v8, v9, rs, ms, hc, rfl, rfl⟩ := HRS.out
    refine ⟨_, _, ⟨by simp, by simp⟩, ⟨v8, v9, hc⟩, fun l hl => ?_⟩
    unfold choicesP
    rw [HGN.out, ← hl, if_neg HK4.out]
    simp
  clear HRS hfk hff HGN
  have HB8 : Hid (Below W1.heap.size W1 (W3.alloc (.cells (bitsV s.left).toArray 72))) := ((HB3.out.trans (HB7.out.mono (Nat.le_refl _))).trans ((below_alloc W3 _).mono (Nat.le_trans HB3.out.size HB7.out.size)))
  have HI0 : Hid (Cho (W3.alloc (.cells (bitsV s.left).toArray 72)) W1.heap.size W3.heap.size s.left rs ms (W3.alloc (.cells (bitsV s.left).toArray 72))) := by
    obtain ⟨v8, v9, hc⟩ := HC37.out
    exact ⟨Below.refl _ _, BoxB.new W3 (bitsV s.left) 72, v8, v9, hc.below (below_alloc _ _)⟩
  have HQ8 := Lib.hid (HQ3.out.below (below_alloc W3 (.cells (bitsV s.left).toArray 72)))
  have HLT : Hid (W1.heap.size + 1 < W3.heap.size) := by obtain ⟨v8, v9, hc⟩ := HC37.out; exact hc.b9.lt
  have HSZ : Hid (W3.heap.size < (W3.alloc (.cells (bitsV s.left).toArray 72)).heap.size) := by show W3.heap.size < _; simp
  have HLE : Hid (W1.heap.size ≤ W3.heap.size) := Nat.le_trans HB3.out.size HB7.out.size
  have HP8 : Hid (BoxB (W3.alloc (.cells (bitsV s.left).toArray 72)) w.heap.size [.pointer (some ⟨pb, 0, none⟩)] 24) := ((HB7.out.trans ((below_alloc W3 _).mono HLE.out)).block w.heap.size (by have := HS1.out; omega)).trans HP3.out
  generalize (W3.alloc (.cells (bitsV s.left).toArray 72)) = W8 at *
  have HZ0 : Hid (∀ g, (g = 0 ∨ g = W3.heap.size) → g < W8.heap.size) := fun g hg => by
    have := HSZ.out
    rcases hg with rfl | rfl <;> omega
  have HTG : Hid (TabG W8) := HT.out.below (HB1.out.trans (HB8.out.mono HB1.out.size))
  refine' wpIn_rangeFunc_ownG (I := fun pre W => Cho W8 W1.heap.size W3.heap.size s.left (rs ++ (pre.filter fun y => onP rows s y.1 == 13).map fun _ => (13 : Int)) (ms ++ (pre.filter fun y => onP rows s y.1 == 13).map fun y => ((y.1 : Nat) : Int)) W) (Ix := fun _ _ _ => False) (Kp := HoldS fun g => g = 0 ∨ g = W3.heap.size)
    rfl (by omega) (gf := 42) (lb := #[.pointer (some ⟨W3.heap.size, 0, none⟩)]) rfl trivial (enters_of Tryd.func42 (by kernel_rfl) rfl)
    (all_stops _ (by omega) W3.heap.size s.left _ (.inl rfl) (.inr rfl) W8 HZ0.out HTG.out HI0.out.bits) holdS_t (holdS_b HZ0.out) (Below.refl _ _) (fun _ => rfl)
    (fun _ _ _ _ hs hg hr => hs.grown hg (fun r e => ⟨Nat.le_trans (Nat.le_of_lt (Nat.lt_of_le_of_lt HLE.out HSZ.out)) (hr r e).1, (hr r e).2⟩)) (fun _ _ _ _ _ hs _ _ => hs) (by simpa using HI0.out) _ ?assign ?body ?done ?stop
  case assign =>
    intro l x W K hK
    unfold memV
    gi_wp2
    exact hK
  case stop => rintro _ _ _ _ _ _ h _; exact h.elim
  case body =>
    rintro l pre x W hI hpl
    have HI := Lib.hid hI
    have HLR : Hid ((rs ++ (pre.filter fun y => onP rows s y.1 == 13).map fun _ => (13 : Int)).length ≤ 1030 ∧ (ms ++ (pre.filter fun y => onP rows s y.1 == 13).map fun y => ((y.1 : Nat) : Int)).length ≤ 1030) := by
      have h1 := HLEN.out
      have h2 := List.length_filter_le (fun y : Mem s.left => onP rows s y.1 == 13) pre
      simp only [List.length_append, List.length_map]
      constructor <;> omega
    clear hpl
    have hlt : x.1 < rows.length := HW.out.left _ x.2.2
    have hbx : BoxB W w.heap.size [.pointer (some ⟨pb, 0, none⟩)] 24 := (HI.out.bel.block w.heap.size (by have := HS1.out; omega)).trans HP8.out
    have c1 : W.cell? ⟨w.heap.size, 0, none⟩ = some (.pointer (some ⟨pb, 0, none⟩)) := hbx.cell (i := 0) rfl
    clear hbx
    have HQW : Hid (BoxB W (w.heap.size + 1) (seqL s.left s.goal) 81) := (HI.out.bel.block _ (by have := HS1.out; omega)).trans HQ8.out
    have HTW : Hid (Tab k ow W (.pointer (some ⟨pb, 0, none⟩)) rows) := H.out.below (HB1.out.trans ((HB8.out.trans HI.out.bel).mono HB1.out.size))
    have HO := Lib.hid (on_any k ow W _ rows HTW.out s s.goal x.1 hlt)
    obtain ⟨kd, hkd⟩ : ∃ kd, kd = onP rows s x.1 := ⟨_, rfl⟩
    rw [← hkd] at HO
    have HK := Lib.hid hkd
    have HN0 : Hid (W1.heap.size ≤ W.heap.size) := Nat.le_trans HLE.out (Nat.le_trans (Nat.le_of_lt HSZ.out) HI.out.bel.size)
    clear hI hlt hkd
    by_cases h13 : kd = 13
    · subst h13
      obtain ⟨v8, v9, hb⟩ := HI.out.bx
      have HC := Lib.hid hb
      clear hb
      gi_wp2_with (first
        | (refine wpIn_loadSeq (.tmp 3) rfl rfl rfl HQW.out ?_)
        | (refine ⟨trivial, ?_⟩; gi_at_call 70; refine (CallsIn.inRound l (callsIn_wide.2 HO.out)).mono ?_; rintro e W6 ⟨rfl, hb6⟩; have HB6 := Lib.hid hb6; have HC6 := Lib.hid (HC.out.below hb6); have HBT6 := Lib.hid (HI.out.bits.below hb6); have cb8 := HC6.out.b8.cell; clear hb6)
        | (gi_at_builtin; go_loud (refine wpListIn_append_own _ rfl (.tmp 47) (.tmp 48) 120 rfl W1.heap.size 100 i8 (.int .i64 0) 1 8 Tryd.underlying120 i81 i82 i83 i84 rfl (by decide) v8 _ _ rfl (HC6.out.below (below_alloc W6 _)).r8 ⟨W6.heap.size, 0, none⟩ 1 1 (ints [13]) rfl rfl (fun j u hu => cell_lit1 W6 100 13 j u hu) (by simp [ints, Value.oneCell']) (by have := HLR.out; unfold maxLen; omega) (by have := HLR.out; omega) (by have := HB6.out.size; have := HN0.out; simp; omega) ?_; intro v8' w7 hown hgr hnil; obtain ⟨g8, q8, rfl⟩ := ownsRow_succ hown; have HO7 := Lib.hid (HC6.out.app8 (xs := [13]) HBT6.out (by decide) (by have := HLT.out; omega) (by have := HB6.out.size; have := HN0.out; omega) hown hgr); clear cb8 hown hgr hnil))
        | (refine wpIn_storeB (.tmp 8) (.tmp 49) rfl rfl rfl rfl (by kernel_rfl) HO7.out.1 ?_; intro W8' hw; have HC8 := Lib.hid HO7.out.2.1; have HBT8 := Lib.hid HO7.out.2.2.1; have HK8 := Lib.hid HO7.out.2.2.2.1; have HB8' := Lib.hid HO7.out.2.2.2.2; rw [← hw] at HC8 HBT8 HK8 HB8'; have cb9 := HC8.out.b9.cell; clear hw HO7)
        | (gi_at_builtin; go_loud (refine wpListIn_append_own _ rfl (.tmp 50) (.tmp 52) 22 rfl W1.heap.size 3 i9 (.int .i64 0) 1 8 Tryd.underlying22 i91 i92 i93 i94 rfl (by decide) v9 _ _ rfl (HC8.out.below (below_alloc W8' _)).r9 ⟨W8'.heap.size, 0, none⟩ 1 1 (ints [(x.1 : Int)]) rfl rfl (fun j u hu => cell_lit1 W8' 3 _ j u hu) (by simp [ints, Value.oneCell']) (by have := HLR.out; unfold maxLen; omega) (by have := HLR.out; omega) (by have := HB6.out.size; have := HN0.out; have := HB8'.out.size; simp; omega) ?_; intro v9' w9 hown hgr hnil; obtain ⟨g9, q9, rfl⟩ := ownsRow_succ hown; have HO9 := Lib.hid (HC8.out.app9 (xs := [(x.1 : Int)]) HBT8.out (by decide) (by have := HLT.out; omega) (by have := HB6.out.size; have := HN0.out; have := HB8'.out.size; omega) hown hgr); clear cb9 hown hgr hnil))
        | (refine wpIn_storeB (.tmp 9) (.tmp 53) rfl rfl rfl rfl (by kernel_rfl) HO9.out.1 ?_; intro W10 hw; have HC10 := Lib.hid HO9.out.2.1; have HBT10 := Lib.hid HO9.out.2.2.1; have HK10 := Lib.hid HO9.out.2.2.2.1; have HB10 := Lib.hid HO9.out.2.2.2.2; rw [← hw] at HC10 HBT10 HK10 HB10; clear hw HO9))
      have hsel : (pre ++ [x]).filter (fun y => onP rows s y.1 == 13) = pre.filter (fun y => onP rows s y.1 == 13) ++ [x] := by rw [List.filter_append]; simp [← HK.out]
      have hk : KeepsFrom W8.heap.size W W10 := ((KeepsFrom.of_grownBy (row := none) (grown_of_below HB6.out) (fun j e => by cases e)).trans (HK8.out.from _)).trans (HK10.out.from _)
      have hbl : Below W1.heap.size W W10 := ((HB6.out.mono HN0.out).trans HB8'.out).trans HB10.out
      have hbx : ∃ v8 v9, ChoB W1.heap.size W10 (rs ++ ((pre ++ [x]).filter fun y => onP rows s y.1 == 13).map fun _ => (13 : Int)) (ms ++ ((pre ++ [x]).filter fun y => onP rows s y.1 == 13).map fun y => ((y.1 : Nat) : Int)) v8 v9 := by
        rw [hsel, List.map_append, List.map_append, ← List.append_assoc, ← List.append_assoc]
        exact ⟨_, _, HC10.out⟩
      refine ⟨hk, fun g hg => ?_, HI.out.bel.trans hbl, HBT10.out, hbx⟩
      rcases hg with rfl | rfl
      · exact hbl.block 0 (by have := HS1.out; omega)
      · exact HBT10.out.trans HI.out.bits.symm
    · have h13' : (kd == 13) = false := by simpa using h13
      have HH := Lib.hid h13
      clear h13
      gi_wp2_with (first
        | (refine wpIn_loadSeq (.tmp 3) rfl rfl rfl HQW.out ?_)
        | (refine ⟨trivial, ?_⟩; gi_at_call 70; refine (CallsIn.inRound l (callsIn_wide.2 HO.out)).mono ?_; rintro e W6 ⟨rfl, hb6⟩; have HB6 := Lib.hid hb6; clear hb6))
      have hsel : (pre ++ [x]).filter (fun y => onP rows s y.1 == 13) = pre.filter (fun y => onP rows s y.1 == 13) := by rw [List.filter_append]; simp [← HK.out, HH.out]
      refine ⟨KeepsFrom.of_grownBy (row := none) (grown_of_below HB6.out) (fun j e => by cases e), holdS_below (fun g hg => Nat.lt_of_lt_of_le (HZ0.out g hg) HI.out.bel.size) HB6.out, ?_⟩
      show Cho W8 W1.heap.size W3.heap.size s.left _ _ W6
      rw [hsel]
      obtain ⟨v8, v9, hb⟩ := HI.out.bx
      exact ⟨HI.out.bel.trans (HB6.out.mono HN0.out), HI.out.bits.below HB6.out, v8, v9, hb.below HB6.out⟩
  case done =>
    rintro D ys W hD hys hI hK
    have HI := Lib.hid hI
    obtain ⟨v8, v9, hb⟩ := HI.out.bx
    have HC := Lib.hid hb
    have cb8 := hb.b8.cell
    have cb9 := hb.b9.cell
    clear hb hI
    gi_wp2
    refine wpIn_region_quiet_lit rfl (by kernel_rfl) (by kernel_rfl) ?_
    repeat (
      refine wpQuietIn_step (by unfold Oper.askedIn; intros; trivial) (fun K hK => ?_)
      go_simp
      refine hK _ ?_; clear hK K)
    refine wpQuietIn_nil ?_
    intro _ hw'
    obtain ⟨nq, hw''⟩ := hw'
    subst hw''
    gi_wp2
    have hK8 : (W.drewN nq).heap[D]? = some (.deferred (some [])) := by simpa using hK
    have HC2' := (HC.out.below (below_drewN W nq)).grown (grownBy_putObj' (W.drewN nq) D (.deferred none)) (fun r e => by cases e; exact ⟨_, hK8, rfl⟩)
    have HDD : w.heap.size ≤ D := by have := HS1.out; have := HLE.out; have := HSZ.out; omega
    have hsl : ((ys.filter fun y => onP rows s y.1 == 13).map fun y => y.1) = (List.range rows.length).filter (fun i => s.left.testBit i && onP rows s i == 13) := sel_upto H.out.ok.le HW.out.left hys
    have hbs := HBASE.out _ hsl
    rw [List.map_map, List.map_map] at hbs
    refine ⟨by simp, .inl ⟨_, _, rfl, run_takeDeferred hK8, ?_⟩⟩
    refine ⟨.tuple #[v8, v9, .int .i64 0], by simp [results, Tryd.results53, go_sem], v8, v9, rfl, ?_, ?_, ?_⟩
    · rw [← List.length_map (f := fun c : Int × Nat => c.1), hbs.1]
      exact own_base HC2'.r8 (by have := HS1.out; omega)
    · rw [← List.length_map (f := fun c : Int × Nat => (c.2 : Int)), hbs.2]
      exact own_base HC2'.r9 (by have := HS1.out; omega)
    · exact ((HB1.out.trans ((HB8.out.trans HI.out.bel).mono HB1.out.size)).trans ((below_drewN W nq).mono (Nat.le_trans HB1.out.size (Nat.le_trans HB8.out.size HI.out.bel.size)))).trans (belowK_b (w := w) (Nat.le_refl _) (W.drewN nq) D _ _ HDD hK8 rfl rfl)
theorem rChoices_any (F : FP) (w : World) (t : Value) (rows : List ND) (hF : TabF F w t rows) (hT : TabG w) (s : SQ) (hs : Wf rows s) (h14 : (applyP rows s).1 = 14) :
    Calls Tryd.prog 53 #[t, .agg (seqL s.left s.goal).toArray] w (ChoicesPost w (choicesP rows s)) := by
  by_cases h4 : (rowAt rows s.goal).kind = 4
  · exact choices_any 0 _ w t rows (hF.col 0) hT s hs h14 h4
  · exact choices_no 0 _ w t rows (hF.col 0) hT s hs h14 h4
end Go.Dk
end

section
namespace Go.Dk
open Go.RowKit Go.Maps Go.MapKept
open Go.Proofs hiding intOf
/-- A sequent as a value; a value of another shape for what is no row of bits, so that no two are alike. -/
def SQ.val (s : SQ) : Value := if s.left < 2 ^ 1024 then .agg (seqL s.left s.goal).toArray else .agg #[.int .i64 (s.left : Int), .int .i64 (s.goal : Int)]
theorem SQ.val_yes {s : SQ} (h : s.left < 2 ^ 1024) : s.val = .agg (seqL s.left s.goal).toArray := if_pos h
theorem SQ.val_inj : ∀ x y : SQ, x.val = y.val → x = y := by
  intro x y h
  obtain ⟨l, g⟩ := x
  obtain ⟨l', g'⟩ := y
  unfold SQ.val at h
  simp only at h
  by_cases h1 : l < 2 ^ 1024
  · by_cases h2 : l' < 2 ^ 1024
    · rw [if_pos h1, if_pos h2] at h
      have h0 : seqL l g = seqL l' g' := by injection h with h; simpa using h
      unfold seqL at h0
      have h3 := List.append_inj h0 (by simp [bitsV_len])
      have h4 := bitsV_inj h1 h2 h3.1
      have h5 := h3.2
      simp at h5
      have h6 : g = g' := by exact_mod_cast h5
      rw [h4, h6]
    · rw [if_pos h1, if_neg h2] at h
      have := congrArg (fun v => match v with | Value.agg a => a.size | _ => 0) h
      simp [seqL_len] at this
  · by_cases h2 : l' < 2 ^ 1024
    · rw [if_neg h1, if_pos h2] at h
      have := congrArg (fun v => match v with | Value.agg a => a.size | _ => 0) h
      simp [seqL_len] at this
    · rw [if_neg h1, if_neg h2] at h
      simp at h
      obtain ⟨e1, e2⟩ := h
      have e1 : l = l' := by exact_mod_cast e1
      have e2 : g = g' := by exact_mod_cast e2
      rw [e1, e2]
theorem wf_lt {rows : List ND} (ok : Ok rows) {s : SQ} (wf : Wf rows s) : s.left < 2 ^ 1024 := by
  apply Nat.lt_pow_two_of_testBit
  intro i hi
  cases h : s.left.testBit i with
  | false => rfl
  | true =>
    have := wf.left i h
    have := ok.le
    omega
theorem lawSeq : Keyed Tryd.prog 81 :=
  Keyed.of_law (deep_law_laid (by kernel_rfl) (m := 4) (by omega) (of_decide_eq_true (by kernel_rfl)) (by kernel_rfl) (by rw [Tryd.underlying81]))
set_option maxRecDepth 100000 in
theorem seqKey (m g : Nat) (hg : (Lit.int .i64 (g : Int)).wf = true) : ∃ kl, keyOf Tryd.prog 81 (.agg (seqL m (g : Int)).toArray) = some kl := by
  apply Option.isSome_iff_exists.1
  unfold keyOf
  rw [Tryd.underlying81]
  simp only
  have e1 : (Program.keyType Tryd.prog 81) = true := by kernel_rfl
  have k0 : Tryd.prog.cellsOf 81 = 17 := by kernel_rfl
  have e2 : (Value.agg (seqL m (g : Int)).toArray).formed Tryd.prog 81 = true := by
    simp [Value.formed, Tryd.underlying81, k0, seqL_len]
  rw [e1, e2]
  simp only [Bool.and_self, if_true]
  have e0 : 2 < Tryd.prog.types.size := of_decide_eq_true (by kernel_rfl)
  have e3 : ∃ d, Tryd.prog.types.size = d + 2 := ⟨Tryd.prog.types.size - 2, by omega⟩
  obtain ⟨d, hd⟩ := e3
  rw [hd]
  have k1 : Tryd.prog.cellsOf 72 = 16 := by kernel_rfl
  have k2 : Tryd.prog.cellsOf 70 = 1 := by kernel_rfl
  have k3 : Tryd.prog.cellsOf 3 = 1 := by kernel_rfl
  have hw : ∀ i, (Lit.int .u64 (wd m i : Int)).wf = true := fun i => by
    have := wd_lt m i
    exact WalkArith.wf_u64 (by omega)
  have hr : List.range 16 = [0, 1, 2, 3, 4, 5, 6, 7, 8, 9, 10, 11, 12, 13, 14, 15] := rfl
  have hc : seqL m (g : Int) = [.int .u64 (wd m 0 : Int), .int .u64 (wd m 1 : Int), .int .u64 (wd m 2 : Int), .int .u64 (wd m 3 : Int), .int .u64 (wd m 4 : Int), .int .u64 (wd m 5 : Int), .int .u64 (wd m 6 : Int), .int .u64 (wd m 7 : Int), .int .u64 (wd m 8 : Int), .int .u64 (wd m 9 : Int), .int .u64 (wd m 10 : Int), .int .u64 (wd m 11 : Int), .int .u64 (wd m 12 : Int), .int .u64 (wd m 13 : Int), .int .u64 (wd m 14 : Int), .int .u64 (wd m 15 : Int), .int .i64 (g : Int)] := rfl
  simp [Program.keyLits, Tryd.underlying81, Tryd.underlying72, Tryd.underlying70, Tryd.underlying3, Value.cells, hc, hr, k0, k1, k2, k3, hw, hg]
def stepL (x : SS) (kv : Value) : List Value := seqL x.seq.left x.seq.goal ++ [.bool x.proved, .int .i64 x.rule, .int .i64 (x.main : Int), kv]
theorem stepL_len (x : SS) (kv : Value) : (stepL x kv).length = 21 := by simp [stepL, seqL_len]
def stepsL : List SS → List Value → List Value
  | x :: xs, v :: vs => stepL x v ++ stepsL xs vs
  | _, _ => []
theorem stepsL_append : ∀ (xs : List SS) (vs : List Value) (x : SS) (v : Value), xs.length = vs.length → stepsL (xs ++ [x]) (vs ++ [v]) = stepsL xs vs ++ stepL x v
  | [], [], x, v, _ => by simp [stepsL]
  | y :: ys, u :: us, x, v, h => by simp [stepsL, stepsL_append ys us x v (by simpa using h)]
  | [], _ :: _, _, _, h => by simp at h
  | _ :: _, [], _, _, h => by simp at h
theorem stepsL_at : ∀ (xs : List SS) (vs : List Value) (i j : Nat) (x : SS) (v : Value), xs.length = vs.length → xs[i]? = some x → vs[i]? = some v → j < 21 → (stepsL xs vs)[i * 21 + j]? = (stepL x v)[j]?
  | y :: ys, u :: us, 0, j, x, v, _, hx, hv, hj => by
    simp at hx hv
    subst hx hv
    simp only [stepsL, Nat.zero_mul, Nat.zero_add]
    rw [List.getElem?_append_left (by rw [stepL_len]; exact hj)]
  | y :: ys, u :: us, i + 1, j, x, v, h, hx, hv, hj => by
    simp only [stepsL]
    rw [List.getElem?_append_right (by rw [stepL_len]; omega), stepL_len, show (i + 1) * 21 + j - 21 = i * 21 + j by omega]
    exact stepsL_at ys us i j x v (by simpa using h) (by simpa using hx) (by simpa using hv) hj
  | [], _, _, _, _, _, _, hx, _, _ => by simp at hx
  | _ :: _, [], _, _, _, _, h, _, _, _ => by simp at h
/-- A step's kids: a slice in a block of K. -/
structure KidV (K : FP) (w : World) (v : Value) (kids : List Nat) : Prop where
  rd : Rd w v kids.length 1 (ints (kids.map fun i : Nat => (i : Int)))
  out : ∀ a m c, v = .slice (some a) m c → K a.block
theorem KidV.same {K K' : FP} {w w' : World} {v : Value} {kids : List Nat} (h : KidV K w v kids) (hk : ∀ b, K b → w'.heap[b]? = w.heap[b]?) (hs : ∀ b, K b → K' b) : KidV K' w' v kids := by
  refine ⟨?_, fun a m c e => hs _ (h.out a m c e)⟩
  obtain ⟨⟨a, c, e, h1, h2⟩, hl⟩ := h.rd
  exact ⟨⟨a, c, e, h1, fun ad ha => ⟨(h2 ad ha).1, fun j u hu => by
    have h3 := (h2 ad ha).2 j u hu
    have h4 := hk ad.block (h.out ad _ _ (by rw [e, ha]))
    unfold World.cell? at h3 ⊢
    simp only [h4]
    exact h3⟩⟩, hl⟩
structure FinM (F G K : FP) (w : World) (pf : Nat) (t : Value) (st : SR) (vis : Int) (sv : Value) (mb : Nat) (kvs : List Value) : Prop where
  tab : TabF F w t st.rows
  gin : G.in_ w
  kin : K.in_ w
  ap : F.apart G
  kf : K.apart F
  kg : K.apart G
  blk : w.heap[pf]? = some (.cells #[t, sv, .map (some mb), .int .i64 (st.left : Int), .int .i64 vis] 98 (0, 0))
  row : w.ownsRow 0 102 21 sv st.steps.length (stepsL st.steps kvs)
  len : st.steps.length = kvs.length
  kid : ∀ (i : Nat) (x : SS) (v : Value), st.steps[i]? = some x → kvs[i]? = some v → KidV K w v x.kids
  map : TM Tryd.prog 81 SQ.val natV w mb (findL st.steps)
  gp : G pf
  gm : G mb
  gs : ∀ g, sv.ownBlock = some g → G g
/-- A finder in memory. -/
def Fin (F G K : FP) (w : World) (pf : Nat) (t : Value) (st : SR) (vis : Int) : Prop := ∃ sv mb kvs, FinM F G K w pf t st vis sv mb kvs
/-- All its blocks. -/
def H3 (F G K : FP) : FP := fun b => F b ∨ G b ∨ K b
section
variable {F G K : FP} {w w' : World} {pf : Nat} {t : Value} {st : SR} {vis : Int} {sv : Value} {mb : Nat} {kvs : List Value}
theorem FinM.in_ (h : FinM F G K w pf t st vis sv mb kvs) : (H3 F G K).in_ w := fun b hf => hf.elim (h.tab.in_ b) fun hf => hf.elim (h.gin b) (h.kin b)
theorem FinM.below (h : FinM F G K w pf t st vis sv mb kvs) (hb : Below w.heap.size w w') : FinM F G K w' pf t st vis sv mb kvs :=
  ⟨h.tab.below hb, h.gin.below hb, h.kin.below hb, h.ap, h.kf, h.kg, (hb.block _ (h.gin _ h.gp)).trans h.blk, own_same h.row fun g hg => hb.block g (h.row.lt g hg).2, h.len,
   fun i x v hx hv => (h.kid i x v hx hv).same (fun b hk => hb.block b (h.kin b hk)) (fun _ h => h), h.map.below hb, h.gp, h.gm, h.gs⟩
theorem Fin.below (h : Fin F G K w pf t st vis) (hb : Below w.heap.size w w') : Fin F G K w' pf t st vis := by
  obtain ⟨sv, mb, kvs, h⟩ := h
  exact ⟨sv, mb, kvs, h.below hb⟩
theorem Fin.in_ (h : Fin F G K w pf t st vis) : (H3 F G K).in_ w := by
  obtain ⟨sv, mb, kvs, h⟩ := h
  exact h.in_
/-- The table is written, the finder stands. -/
theorem FinM.tabbed {F' : FP} {rows' : List ND} (h : FinM F G K w pf t st vis sv mb kvs) (hk : KeptF F w F' w') (ht : TabF F' w' t rows') : FinM F' G K w' pf t ⟨rows', st.steps, st.left⟩ vis sv mb kvs := by
  have hn : ∀ b, G b → ¬ F b := fun b hg hf => h.ap b hf hg
  refine ⟨ht, fun b hg => Nat.lt_of_lt_of_le (h.gin b hg) hk.size, fun b hg => Nat.lt_of_lt_of_le (h.kin b hg) hk.size, hk.apart h.gin h.ap, fun b hb hf => h.kf b hb (hk.sub b (h.kin b hb) hf), h.kg, hk.box h.blk (hn _ h.gp), own_same h.row fun g hg => hk.block g (h.row.lt g hg).2 (hn _ (h.gs g hg)), h.len,
    fun i x v hx hv => (h.kid i x v hx hv).same (fun b hb => hk.block b (h.kin b hb) (h.kf b hb)) (fun _ h => h), ?_, h.gp, h.gm, h.gs⟩
  exact h.map.same (hk.block mb h.map.lt (hn _ h.gm))
theorem KeptF.tab3 {F' : FP} (hk : KeptF F w F' w') (hg : G.in_ w) (hkk : K.in_ w) : KeptF (H3 F G K) w (H3 F' G K) w' :=
  ⟨hk.os, hk.tape, hk.output, hk.size, fun b hb hf => hf.imp (hk.sub b hb) id, fun b hf => hf.elim (hk.lt b) fun h => Nat.lt_of_lt_of_le (h.elim (hg b) (hkk b)) hk.size, fun b hb hn => hk.block b hb fun hf => hn (.inl hf)⟩
theorem KeptF.fin3 {G' : FP} (hk : KeptF G w G' w') (hf : F.in_ w) (hkk : K.in_ w) : KeptF (H3 F G K) w (H3 F G' K) w' :=
  ⟨hk.os, hk.tape, hk.output, hk.size, fun b hb h => h.imp id fun h => h.imp (hk.sub b hb) id, fun b h => h.elim (fun h => Nat.lt_of_lt_of_le (hf b h) hk.size) fun h => h.elim (hk.lt b) fun h => Nat.lt_of_lt_of_le (hkk b h) hk.size, fun b hb hn => hk.block b hb fun h => hn (.inr (.inl h))⟩
/-- What changes only blocks outside leaves the finder. -/
theorem FinM.beside {X : FP} (h : FinM F G K w pf t st vis sv mb kvs) (hk : KeptF X w X w') (hx : (H3 F G K).apart X) : FinM F G K w' pf t st vis sv mb kvs := by
  have hb : ∀ b, H3 F G K b → w'.heap[b]? = w.heap[b]? := fun b hf => hk.block b (h.in_ b hf) (hx b hf)
  exact ⟨h.tab.kept hk (fun b hf => hx b (.inl hf)), fun b hg => Nat.lt_of_lt_of_le (h.gin b hg) hk.size, fun b hg => Nat.lt_of_lt_of_le (h.kin b hg) hk.size, h.ap, h.kf, h.kg, (hb _ (.inr (.inl h.gp))).trans h.blk, own_same h.row fun g hg => hb g (.inr (.inl (h.gs g hg))), h.len,
    fun i x v hx hv => (h.kid i x v hx hv).same (fun b hk => hb b (.inr (.inr hk))) (fun _ h => h), h.map.same (hb mb (.inr (.inl h.gm))), h.gp, h.gm, h.gs⟩
/-- One block more among the kids'. -/
theorem FinM.more {X : FP} (h : FinM F G K w pf t st vis sv mb kvs) (hx : X.in_ w) (hf : X.apart F) (hg : X.apart G) : FinM F G (fun b => K b ∨ X b) w pf t st vis sv mb kvs :=
  ⟨h.tab, h.gin, fun b hb => hb.elim (h.kin b) (hx b), h.ap, fun b hb => hb.elim (h.kf b) (hf b), fun b hb => hb.elim (h.kg b) (hg b), h.blk, h.row, h.len, fun i x v hx hv => (h.kid i x v hx hv).same (fun _ _ => rfl) (fun _ h => .inl h), h.map, h.gp, h.gm, h.gs⟩
end
end Go.Dk
end

section
namespace Go.Dk
open Go.RowKit Go.Maps Go.MapKept
open Go.Proofs hiding intOf
/-- The load of a step, under a name that the walk does not open. -/
def stepLoad (p : Value) : _root_.Go.Sem Value := Instr.loadAt 102 p
theorem step_fold (p : Value) : Instr.loadAt 102 p = stepLoad p := rfl
theorem load_stepV {W : World} {p : Value} (h : Loadable 102 W p) : (stepLoad p).run Tryd.prog W = .ok (loadV 102 W p) W := by
  unfold loadV
  rw [dif_pos h]
  exact Classical.choose_spec h
theorem uStep : ∃ d, Tryd.prog.underlying 102 = some d ∧ d.isRow = true := row_of (by kernel_rfl)
theorem iStep : (Tryd.prog.info? 102).map (·.size) = some 21 := by kernel_rfl
theorem infoStep : (Tryd.prog.info? 102).map (fun i => (i.zero, i.size, i.bytes)) = some (some (.agg #[.int .u64 0, .int .u64 0, .int .u64 0, .int .u64 0, .int .u64 0, .int .u64 0, .int .u64 0, .int .u64 0, .int .u64 0, .int .u64 0, .int .u64 0, .int .u64 0, .int .u64 0, .int .u64 0, .int .u64 0, .int .u64 0, .int .i64 0, .bool false, .int .i64 0, .int .i64 0, .slice none 0 0]), 21, 184) := by kernel_rfl
theorem BoxB.loadsStep {W : World} {b : Nat} {x : SS} {kv : Value} {T : TypeId} (h : BoxB W b (stepL x kv) T) : LoadsV 102 W (.pointer (some ⟨b, 0, none⟩)) (.agg (stepL x kv).toArray) := by
  obtain ⟨d, hu, hd⟩ := uStep
  exact run_loadAt_mid (P := Tryd.prog) W b 0 102 (stepL x kv) d (h.range (by simp)) hu hd (by rw [stepL_len]; exact iStep)
theorem BoxB.loadsStepSeq {W : World} {b : Nat} {x : SS} {kv : Value} {T : TypeId} (h : BoxB W b (stepL x kv) T) : LoadsV 81 W (.pointer (some ⟨b, 0, none⟩)) (.agg (seqL x.seq.left x.seq.goal).toArray) := by
  obtain ⟨d, hu, hd⟩ := uSeq
  refine run_loadAt_mid (P := Tryd.prog) W b 0 81 (seqL x.seq.left x.seq.goal) d (h.range ?_) hu hd (by rw [seqL_len]; exact iSeq)
  unfold stepL
  rw [List.drop_zero, List.take_append_of_le_length (Nat.le_refl _), List.take_of_length_le (Nat.le_refl _)]
theorem fold_step (x : SS) (kv : Value) (z : Array Value) (hz : z.size = 21) : List.foldl (fun (cs : Array Value) (x : Value × Nat) => cs.setIfInBounds x.2 x.1) z (stepL x kv).zipIdx = (stepL x kv).toArray := by
  rw [fold_set (stepL x kv) 0 _ (by rw [stepL_len]; omega)]
  simp
theorem slice_one {v : Value} {n size : Nat} {w : World} {xs : List Value} (h : Rd w v n size xs) : v.oneCell' = true := by
  obtain ⟨⟨a, c, rfl, _⟩, _⟩ := h
  rfl
theorem step_one (x : SS) (kv : Value) (h : kv.oneCell' = true) : ∀ y ∈ stepL x kv, y.oneCell' = true := by
  intro y hy
  unfold stepL at hy
  rcases List.mem_append.1 hy with hy | hy
  · exact (Array.all_eq_true_iff_forall_mem.1 (seq_one x.seq.left x.seq.goal)) y (by simpa using hy)
  · simp at hy
    rcases hy with rfl | rfl | rfl | rfl <;> first | rfl | exact h
def EndPost (F G K : FP) (w : World) (pf : Nat) (t : Value) (st : SR) (vis : Int) (x : SS) (e : Ending) (w' : World) : Prop :=
  e = .returned (.tuple #[.int .i64 (st.steps.length : Int), .int .i64 0]) ∧ ∃ G', KeptF G w G' w' ∧ Fin F G' K w' pf t ⟨st.rows, st.steps ++ [x], st.left⟩ vis
theorem findL_upd (l : List SS) (x : SS) : findL (l ++ [x]) = upd (findL l) x.seq (some l.length) := by
  funext s
  rw [findL_snoc]
  by_cases h : x.seq = s
  · subst h; rw [if_pos rfl, upd_same]
  · rw [if_neg h, upd_other _ _ (fun e => h e.symm)]
theorem end_fin {F G K : FP} {w wa w2 w4 : World} {pf : Nat} {t : Value} {st : SR} {vis : Int} {a : Option Addr} {c mb : Nat} {kvs : List Value} {x : SS} {kv : Value} {g cap : Nat} (hm : FinM F G K w pf t st vis (.slice a st.steps.length c) mb kvs) (hk : KidV K w kv x.kids)
    (hba : Below w.heap.size w wa) (ho : Only mb wa w2) (hmap : TM Tryd.prog 81 SQ.val natV w2 mb (upd (findL st.steps) x.seq (some st.steps.length)))
    (hown : w4.ownsRow 0 102 21 (.slice (some ⟨g, 0, none⟩) (st.steps.length + 1) cap) (st.steps.length + 1) (stepsL st.steps kvs ++ stepL x kv)) (hgr : w2.grownBy w4 (Value.slice a st.steps.length c).ownBlock)
    (hat : (Value.slice a st.steps.length c).ownBlock = some g ∨ w.heap.size ≤ g) (hgl : g < w4.heap.size) (hb4 : w4.heap[pf]? = some (.cells #[t, .slice a st.steps.length c, .map (some mb), .int .i64 (st.left : Int), .int .i64 vis] 98 (0, 0)))
    (hvm : (Value.slice a st.steps.length c).ownBlock ≠ some mb) (hpm : pf ≠ mb) :
    ∃ G', KeptF G w G' (w4.setCell ⟨pf, 1, none⟩ (.slice (some ⟨g, 0, none⟩) (st.steps.length + 1) cap)) ∧ Fin F G' K (w4.setCell ⟨pf, 1, none⟩ (.slice (some ⟨g, 0, none⟩) (st.steps.length + 1) cap)) pf t ⟨st.rows, st.steps ++ [x], st.left⟩ vis := by
  have hgp : g ≠ pf := fun e => own_ne hown hb4 (by intro cur fr e; cases e) (by rw [e]; rfl)
  have hsz : w.heap.size ≤ w4.heap.size := Nat.le_trans hba.size (Nat.le_trans (Nat.le_of_eq ho.size.symm) hgr.size)
  have hG : ∀ b, b < w.heap.size → (G b ∨ b = g) → G b := fun b hb h => by
    rcases h with h | rfl
    · exact h
    · rcases hat with h | h
      · exact hm.gs _ h
      · omega
  have hK : KeptF G w (fun b => G b ∨ b = g) (w4.setCell ⟨pf, 1, none⟩ (.slice (some ⟨g, 0, none⟩) (st.steps.length + 1) cap)) := by
    refine ⟨hgr.os.trans (ho.os.trans hba.os), hgr.tape.trans (ho.tape.trans hba.tape), hgr.output.trans (ho.output.trans hba.output), by simp; exact hsz, hG, fun b hb => ?_, fun b hb hn => ?_⟩
    · rcases hb with hb | rfl
      · have := hm.gin b hb; simp; omega
      · simpa using hgl
    · rw [Below.heap_setCell _ _ _ _ (fun e => hn (by rw [e]; exact hm.gp)), hgr.block b (by have := hba.size; have := ho.size; omega) (fun e => hn (hm.gs b e.symm)), ho.block b (fun e => hn (e ▸ hm.gm))]
      exact hba.block b hb
  refine ⟨_, hK, .slice (some ⟨g, 0, none⟩) (st.steps.length + 1) cap, mb, kvs ++ [kv], hm.tab.kept hK hm.ap, hK.lt, fun b hb => Nat.lt_of_lt_of_le (hm.kin b hb) hK.size, fun b hf hg => ?_, hm.kf, fun b hb hg => hm.kg b hb (hG b (hm.kin b hb) hg), ?_, ?_, ?_, ?_, ?_, .inl hm.gp, .inl hm.gm, fun b hb => ?_⟩
  · exact hm.ap b hf (hG b (hm.tab.in_ b hf) hg)
  · rw [setCell_block hb4]; rfl
  · rw [stepsL_append _ _ _ _ hm.len, List.length_append]
    exact own_same hown fun b hb => Below.heap_setCell _ _ _ _ (fun e => hgp (by
      have : g = b := by simpa [Value.ownBlock] using hb
      exact this.trans e))
  · simp [hm.len]
  · intro i y v hy hv
    rw [List.getElem?_append] at hy hv
    have hk2 : ∀ b, K b → (w4.setCell ⟨pf, 1, none⟩ (.slice (some ⟨g, 0, none⟩) (st.steps.length + 1) cap)).heap[b]? = w.heap[b]? := fun b hb => hK.block b (hm.kin b hb) (hm.kg b hb)
    by_cases hi : i < st.steps.length
    · rw [if_pos hi] at hy
      rw [if_pos (by rw [← hm.len]; exact hi)] at hv
      exact (hm.kid i y v hy hv).same hk2 (fun _ h => h)
    · rw [if_neg hi] at hy
      rw [if_neg (by rw [← hm.len]; exact hi)] at hv
      have h1 := (List.getElem?_eq_some_iff.1 hy).1
      simp at h1
      rw [h1] at hy
      rw [← hm.len, h1] at hv
      simp at hy hv
      subst hy hv
      exact hk.same hk2 (fun _ h => h)
  · simp only
    rw [findL_upd]
    have h4 := hmap.same (hgr.block mb hmap.lt (fun e => hvm e.symm))
    exact h4.same (Below.heap_setCell _ _ _ _ (fun e => hpm e.symm))
  · have : g = b := by simpa [Value.ownBlock] using hb
    exact .inr this.symm
attribute [local go_sem ↓] load_fold step_fold
attribute [local go_sem] load_seqV load_stepV
set_option maxRecDepth 100000 in
set_option maxHeartbeats 2000000 in
theorem end_any (F G K : FP) (w : World) (pf : Nat) (t : Value) (st : SR) (vis : Int) (h : Fin F G K w pf t st vis) (x : SS) (kv : Value) (hx : x.seq.left < 2 ^ 1024) (hg : x.seq.goal < 2 ^ 62) (hk : KidV K w kv x.kids) (hsl : st.steps.length < 4096) :
    Calls Tryd.prog 47 #[.pointer (some ⟨pf, 0, none⟩), .agg (stepL x kv).toArray] w (EndPost F G K w pf t st vis x) := by
  obtain ⟨sv, mb, kvs, hm⟩ := h
  have H0 := Lib.hid (hm.below (below_alloc w (.cells (stepL x kv).toArray 102)))
  have HX := Lib.hid (BoxB.new w (stepL x kv) 102)
  obtain ⟨a, c, rfl⟩ := own_slice hm.row
  have HK := Lib.hid hk
  have HM := Lib.hid hm
  obtain ⟨kl, hkl⟩ := seqKey x.seq.left x.seq.goal (WalkArith.wf_i64 (by omega))
  rw [← SQ.val_yes (s := x.seq) hx] at hkl
  obtain ⟨w2, hrun, hmap, honly⟩ := TM.put (w := (w.alloc (.cells (stepL x kv).toArray 102)).drew) (H0.out.map.below (below_drewN _ 1)) lawSeq SQ.val_inj Tryd.underlying96 hkl st.steps.length
  rw [SQ.val_yes hx] at hrun
  have c0 : (w.alloc (.cells (stepL x kv).toArray 102)).cell? ⟨pf, 1, none⟩ = some (.slice a st.steps.length c) := cell_of H0.out.blk rfl
  have c1 : (w.alloc (.cells (stepL x kv).toArray 102)).cell? ⟨pf, 2, none⟩ = some (.map (some mb)) := cell_of H0.out.blk rfl
  have hl1 : Loadable 81 (w.alloc (.cells (stepL x kv).toArray 102)).drew (.pointer (some ⟨w.heap.size, 0, none⟩)) := (loadV_is (HX.out.below (below_drewN _ 1)).loadsStepSeq).1
  have hl2 : loadV 81 (w.alloc (.cells (stepL x kv).toArray 102)).drew (.pointer (some ⟨w.heap.size, 0, none⟩)) = _ := (loadV_is (HX.out.below (below_drewN _ 1)).loadsStepSeq).2
  have HMP := Lib.hid hmap
  have HON := Lib.hid honly
  clear hm hk hkl hmap honly
  have hrun' : (Instr.mapUpdate 96 (.map (some mb)) (.agg (seqL x.seq.left x.seq.goal).toArray) (.int .i64 (st.steps.length : Int))).run Tryd.prog (w.alloc (.cells (stepL x kv).toArray 102)).drew = .ok () w2 := hrun
  clear hrun
  go_enter Tryd.func47, Tryd.ntmps47
  go_wp2
  go_region
  go_wp2
  have hne : mb ≠ w.heap.size := Nat.ne_of_lt HM.out.map.lt
  have HNE := Lib.hid hne
  have hnp : pf ≠ mb := fun e => by
    have h1 := HM.out.blk
    obtain ⟨l, ⟨es, clock, h2, _⟩, _⟩ := HM.out.map
    rw [e, h2] at h1
    cases h1
  have HX2 : Hid (BoxB w2 w.heap.size (stepL x kv) 102) := (HON.out.block _ (Ne.symm hne)).trans (HX.out.below (below_drewN _ 1))
  have m1 : w2.heap[pf]? = some (.cells #[t, .slice a st.steps.length c, .map (some mb), .int .i64 (st.left : Int), .int .i64 vis] 98 (0, 0)) := (HON.out.block _ hnp).trans ((below_drewN (w.alloc (.cells (stepL x kv).toArray 102)) 1).block pf (lt_of_block H0.out.blk) |>.trans H0.out.blk)
  have hvm : (Value.slice a st.steps.length c).ownBlock ≠ some mb := by
    obtain ⟨l, ⟨es, clock, h2, _⟩, _⟩ := HM.out.map
    exact own_ne HM.out.row h2 (by intro cur fr e; cases e)
  have m2 : w2.ownsRow 0 102 21 (.slice a st.steps.length c) st.steps.length (stepsL st.steps kvs) := own_same H0.out.row fun g hg => by
    exact (HON.out.block g (fun e => hvm (e ▸ hg))).trans ((below_drewN (w.alloc (.cells (stepL x kv).toArray 102)) 1).block g (H0.out.row.lt g hg).2)
  have n1 : (Value.slice a st.steps.length c).ownBlock ≠ some pf := own_ne m2 m1 (by intro cur fr e; cases e)
  have N1 := Lib.hid n1
  have d0 : w2.cell? ⟨pf, 1, none⟩ = some (.slice a st.steps.length c) := cell_of m1 rfl
  have hl3 : Loadable 102 w2.drew (.pointer (some ⟨w.heap.size, 0, none⟩)) := (loadV_is (HX2.out.below (below_drewN _ 1)).loadsStep).1
  have hl4 : loadV 102 w2.drew (.pointer (some ⟨w.heap.size, 0, none⟩)) = _ := (loadV_is (HX2.out.below (below_drewN _ 1)).loadsStep).2
  have hsl2 := stepL_len x kv
  obtain ⟨i0, hi0, hz0, hz1, hz2⟩ := info_parts infoStep
  have lp : pf < w2.heap.size := lt_of_block m1
  have M1 := Lib.hid m1
  have M2 := Lib.hid m2
  have HLS : Hid (st.steps.length < 4096) := hsl
  have HVM := Lib.hid hvm
  have HPM := Lib.hid hnp
  clear hvm n1 m1 m2 hne hnp hl1 hl2 hrun' c0 c1 hx hg hsl
  go_region_law (refine step_append_lies _ rfl (.tmp 21) (.tmp 23) 75 rfl 0 102 i0 _ 21 184 Tryd.underlying75 hi0 hz0 hz1 hz2 rfl (by decide) _ st.steps.length (stepsL st.steps kvs) (by simp [Act.eval]; rfl) (by exact M2.out.alloc _) ⟨w2.heap.size, 0, none⟩ 1 1 (stepL x kv) (by simp [Act.eval]) (stepL_len _ _) (by rw [fold_step _ _ _ rfl]; exact World.news_of_block (heap_alloc_new' _ _ rfl)) (step_one x kv (slice_one HK.out.rd)) (by decide) (by unfold maxLen; have := HLS.out; omega) (by have := HLS.out; omega) (by simp) _ rfl ?_; intro g cap w4 hown hgrow hat hlt; have hgr : w2.grownBy w4 (Value.slice a st.steps.length c).ownBlock := grown_ad hgrow; have q1 := (hgr.block pf (lt_of_block M1.out) (Ne.symm N1.out)).trans M1.out; have q2 : w4.cell? ⟨pf, 1, none⟩ = some (.slice a st.steps.length c) := cell_of q1 rfl; have q3 := frozen_of (i := 1) q1; have Q1 := Lib.hid q1; clear q1 hgrow)
  all_goals
    as_aux_lemma =>
    have hf := end_fin HM.out HK.out (below_trans (below_alloc w (.cells (stepL x kv).toArray 102)) (below_drewN _ 1)) HON.out HMP.out hown hgr (hat.imp id (fun e => by have := HON.out.size; simp at this; simp at e; omega)) hlt Q1.out HVM.out HPM.out
    have HF := Lib.hid hf
    have k1 : (w4.setCell ⟨pf, 1, none⟩ (.slice (some ⟨g, 0, none⟩) (st.steps.length + 1) cap)).cell? ⟨pf, 1, none⟩ = some (.slice (some ⟨g, 0, none⟩) (st.steps.length + 1) cap) := by
      have := setCell_block Q1.out (i := 1) (.slice (some ⟨g, 0, none⟩) (st.steps.length + 1) cap)
      exact cell_of this rfl
    clear hf hown hgr hat hlt q2 q3 Q1 d0 hl3 hl4 lp hsl2
    generalize (w4.setCell ⟨pf, 1, none⟩ (.slice (some ⟨g, 0, none⟩) (st.steps.length + 1) cap)) = w5 at *
    go_wp2
    go_ret2
    exact ⟨by simp; unfold wrap64; have := HLS.out; omega, HF.out⟩
end Go.Dk
end

section
namespace Go.Dk
/-- A search takes no more room than it was given. -/
structure Room (st : SR) (r : SA) (d : Nat) : Prop where
  len : r.st.steps.length + r.st.left ≤ st.steps.length + st.left + d
  left : r.st.left ≤ st.left
theorem endS_room (st : SR) (x : SS) : Room st (endS st x) 1 := ⟨by simp [endS]; omega, Nat.le_refl _⟩
theorem Room.from {st st' : SR} {r : SA} {d : Nat} (h : Room st' r d) (h1 : st'.steps.length + st'.left ≤ st.steps.length + st.left) (h2 : st'.left ≤ st.left) : Room st r d := ⟨by have := h.len; omega, Nat.le_trans h.left h2⟩
section
variable {dec : SR → SQ → SA} (D : ∀ st s, Room st (dec st s) 0)
include D
theorem kidsF_room (s : SQ) (k : Int) (main : Nat) : ∀ (todo : List SQ) (st : SR) (kids : List Nat), Room st (kidsF dec s k main todo st kids) 1 := by
  intro todo
  induction todo with
  | nil => intro st kids; rw [kidsF]; exact endS_room _ _
  | cons p t ih =>
    intro st kids
    rw [kidsF]
    have hd := D st p
    split
    · exact ⟨by have := hd.len; simp only; omega, hd.left⟩
    · split
      · exact (ih _ _).from (by have := hd.len; omega) hd.left
      · exact (endS_room _ _).from (by have := hd.len; omega) hd.left
theorem chooseF_room (s : SQ) : ∀ (todo : List (Int × Nat)) (st : SR) (stuck : List Nat), Room st (chooseF dec s todo st stuck) 1 := by
  intro todo
  induction todo with
  | nil => intro st stuck; rw [chooseF]; exact endS_room _ _
  | cons c t ih =>
    intro st stuck
    rw [chooseF]
    simp only
    split
    · exact ⟨by simp only; omega, Nat.le_refl _⟩
    · cases hs : (premisesP st.rows s c.1 c.2).seqs with
      | nil => exact (endS_room _ _).from (by simp) (by simp)
      | cons q more =>
        simp only
        have hd := D ⟨(premisesP st.rows s c.1 c.2).rows, st.steps, st.left⟩ q
        have h1 := hd.len
        have h2 := hd.left
        simp only at h1 h2
        split
        · exact ⟨by simp only; omega, h2⟩
        · split
          · cases more with
            | nil => exact (endS_room _ _).from (by omega) h2
            | cons q2 m =>
              simp only
              have hd2 := D (dec ⟨(premisesP st.rows s c.1 c.2).rows, st.steps, st.left⟩ q).st q2
              have h3 := hd2.len
              have h4 := hd2.left
              split
              · exact ⟨by simp only; omega, by simp only; omega⟩
              · split
                · exact (endS_room _ _).from (by omega) (by omega)
                · exact (endS_room _ _).from (by omega) (by omega)
          · exact (ih _ _).from (by omega) h2
end
theorem decideL_room : ∀ (fuel : Nat) (st : SR) (s : SQ), Room st (decideL fuel st s) 0 := by
  intro fuel
  induction fuel with
  | zero =>
    intro st s
    rw [decideL]
    cases findL st.steps s <;> exact ⟨Nat.le_refl _, Nat.le_refl _⟩
  | succ fuel ih =>
    intro st s
    rw [decideL]
    cases findL st.steps s with
    | some i => exact ⟨Nat.le_refl _, Nat.le_refl _⟩
    | none =>
      simp only
      split
      · exact ⟨Nat.le_refl _, Nat.le_refl _⟩
      · rename_i hl
        split
        · have := chooseF_room ih s (choicesP st.rows s) ⟨st.rows, st.steps, st.left - 1⟩ []
          have h1 := this.len
          have h2 := this.left
          simp only at h1 h2
          exact ⟨by omega, by omega⟩
        · split
          · exact ⟨by simp only; omega, by simp only; omega⟩
          · have := kidsF_room ih s (applyP st.rows s).1 (applyP st.rows s).2 (premisesP st.rows s (applyP st.rows s).1 (applyP st.rows s).2).seqs ⟨(premisesP st.rows s (applyP st.rows s).1 (applyP st.rows s).2).rows, st.steps, st.left - 1⟩ []
            have h1 := this.len
            have h2 := this.left
            simp only at h1 h2
            exact ⟨by omega, by omega⟩
/-- What is applied fits. -/
theorem apply_fits {rows : List ND} (_ok : Ok rows) {s : SQ} (wf : Wf rows s) (h14 : (applyP rows s).1 ≠ 14) : FitK rows s (applyP rows s).1 (applyP rows s).2 := by
  unfold applyP at h14 ⊢
  have key : ∀ {p : Int → Bool} {x : Int × Nat}, leastP rows s p = some x → (∀ k, p k = true → k ≠ 0 ∧ k ≠ 2 ∧ k ≠ 8 ∧ k ≠ 9 ∧ k ≠ 11 ∧ k ≠ 12) → FitK rows s x.1 x.2 := by
    intro p x hx hp
    obtain ⟨h1, h2, h3⟩ := least_some hx
    obtain ⟨n0, n2, n8, n9, n11, n12⟩ := hp _ h3
    refine ⟨wf.left _ h1, ?_⟩
    unfold fitsR
    rw [if_neg n2, if_neg n8, if_neg n9, if_neg (by rintro (h | h) <;> omega)]
    simp [n0, h1, h2]
  cases h1 : leastP rows s (fun k => k == 1) with
  | some x => rw [h1] at h14; exact key h1 (fun k hk => by simp at hk; subst hk; decide)
  | none =>
    rw [h1] at h14
    simp only at h14 ⊢
    by_cases hg : s.left.testBit s.goal = true
    · rw [if_pos hg]
      exact ⟨wf.goal, by simp [fitsR, hg]⟩
    · rw [if_neg hg] at h14 ⊢
      cases h2 : leastP rows s (fun k => decide (3 ≤ k) && decide (k ≤ 7)) with
      | some x => rw [h2] at h14; exact key h2 (fun k hk => by simp at hk; omega)
      | none =>
        rw [h2] at h14
        simp only at h14 ⊢
        by_cases h5 : (rowAt rows s.goal).kind = 5
        · rw [if_pos h5]
          exact ⟨wf.goal, by simp [fitsR, h5]⟩
        · rw [if_neg h5] at h14 ⊢
          by_cases h3 : (rowAt rows s.goal).kind = 3
          · rw [if_pos h3]
            exact ⟨wf.goal, by simp [fitsR, h3]⟩
          · rw [if_neg h3] at h14 ⊢
            cases h4 : leastP rows s (fun k => k == 10) with
            | some x => rw [h4] at h14; exact key h4 (fun k hk => by simp at hk; subst hk; decide)
            | none => rw [h4] at h14; simp at h14
theorem choice_fits {rows : List ND} {s : SQ} (wf : Wf rows s) {c : Int × Nat} (h : IsC rows s c) : FitK rows s c.1 c.2 := by
  rcases h with ⟨h1, h2, h4⟩ | ⟨h1, h2, h3⟩
  · refine ⟨by rw [h2]; exact wf.goal, ?_⟩
    rcases h1 with h1 | h1 <;> rw [h1, h2] <;> simp [fitsR, h4]
  · refine ⟨wf.left _ h2, ?_⟩
    rw [h1]
    simp [fitsR, h2, h3]
end Go.Dk
end

section
namespace Go.Dk
open Go.RowKit Go.Maps Go.MapKept
open Go.Proofs hiding intOf
structure FEnv (F G K : FP) (w : World) : Prop where
  g : TabG w
  z : ¬ H3 F G K 0
theorem TabG.of_block {w w' : World} (h : TabG w) (e : w'.heap[0]? = w.heap[0]?) : TabG w' := fun j hj => (World.cell?_of_block e).trans (h j hj)
theorem FEnv.kept {F G K F' G' K' : FP} {w w' : World} (h : FEnv F G K w) (hk : KeptF (H3 F G K) w (H3 F' G' K') w') : FEnv F' G' K' w' := by
  have h0 : 0 < w.heap.size := World.block_lt_of_cell? _ _ (h.g 0 (by decide))
  exact ⟨h.g.of_block (hk.block 0 h0 h.z), fun hf => h.z (hk.sub 0 h0 hf)⟩
theorem FEnv.below {F G K : FP} {w w' : World} (h : FEnv F G K w) (hb : Below w.heap.size w w') : FEnv F G K w' := ⟨h.g.below hb, h.z⟩
def DecPost (F G K : FP) (w : World) (pf : Nat) (t : Value) (st : SR) (vis : Int) (r : SA) (e : Ending) (w' : World) : Prop :=
  e = .returned (.tuple #[.int .i64 (r.at_ : Int), .int .i64 r.err]) ∧ ∃ F' G' K', KeptF (H3 F G K) w (H3 F' G' K') w' ∧ Fin F' G' K' w' pf t r.st (vis + ((st.left - r.st.left : Nat) : Int))
theorem dec_below {F G K : FP} {w w' : World} {pf : Nat} {t : Value} {st : SR} {vis : Int} {r : SA} {e : Ending} (h : Fin F G K w pf t st vis) (hb : Below w.heap.size w w') (he : e = .returned (.tuple #[.int .i64 (r.at_ : Int), .int .i64 r.err])) (hr : r.st = st) : DecPost F G K w pf t st vis r e w' := by
  refine ⟨he, F, G, K, KeptF.of_below h.in_ hb, ?_⟩
  rw [hr]
  simpa using h.below hb
attribute [local go_sem ↓] load_fold step_fold
attribute [local go_sem] load_seqV load_stepV
set_option maxRecDepth 100000 in
set_option maxHeartbeats 2000000 in
/-- The sequent was decided before. -/
theorem decide_there (F G K : FP) (w : World) (pf : Nat) (t : Value) (st : SR) (vis : Int) (h : Fin F G K w pf t st vis) (s : SQ) (hs : s.left < 2 ^ 1024) (hg : s.goal < 2 ^ 62) (i : Nat) (hf : findL st.steps s = some i) :
    Calls Tryd.prog 39 #[.pointer (some ⟨pf, 0, none⟩), .agg (seqL s.left s.goal).toArray] w (DecPost F G K w pf t st vis ⟨st, 0, i⟩) := by
  have H := Lib.hid h
  obtain ⟨sv, mb, kvs, hm⟩ := h
  have HB0 := Lib.hid (below_alloc w (.cells (seqL s.left s.goal).toArray 81))
  have HX := Lib.hid (BoxB.new w (seqL s.left s.goal) 81)
  have h0 := hm.below HB0.out
  obtain ⟨kl, hkl⟩ := seqKey s.left s.goal (WalkArith.wf_i64 (by omega))
  rw [← SQ.val_yes (s := s) hs] at hkl
  have hlk : ∀ nq, (Instr.lookup 96 (.map (some mb)) (.agg (seqL s.left s.goal).toArray) true).run Tryd.prog ((w.alloc (.cells (seqL s.left s.goal).toArray 81)).drewN nq) = .ok (.tuple #[.int .i64 (i : Int), .bool true]) ((w.alloc (.cells (seqL s.left s.goal).toArray 81)).drewN nq) := fun nq => by
    rw [← SQ.val_yes (s := s) hs]
    exact TM.look_some (h0.map.below (below_drewN _ nq)) lawSeq SQ.val_inj Tryd.underlying96 hkl true hf
  have c2 : (w.alloc (.cells (seqL s.left s.goal).toArray 81)).cell? ⟨pf, 2, none⟩ = some (.map (some mb)) := cell_of h0.blk rfl
  have hld : ∀ nq, Loadable 81 ((w.alloc (.cells (seqL s.left s.goal).toArray 81)).drewN nq) (.pointer (some ⟨w.heap.size, 0, none⟩)) := fun nq => (loadV_is (HX.out.below (below_drewN _ nq)).loads).1
  have hlv : ∀ nq, loadV 81 ((w.alloc (.cells (seqL s.left s.goal).toArray 81)).drewN nq) (.pointer (some ⟨w.heap.size, 0, none⟩)) = _ := fun nq => (loadV_is (HX.out.below (below_drewN _ nq)).loads).2
  clear hm h0 hkl hf
  go_enter Tryd.func39, Tryd.ntmps39
  go_wp2
  go_quiet (fail)
  go_wp2
  go_ret2
  exact dec_below H.out (below_trans HB0.out (below_drewN _ _)) rfl rfl
set_option maxRecDepth 100000 in
set_option maxHeartbeats 2000000 in
/-- No room is left. -/
theorem decide_full (F G K : FP) (w : World) (pf : Nat) (t : Value) (st : SR) (vis : Int) (h : Fin F G K w pf t st vis) (s : SQ) (hs : s.left < 2 ^ 1024) (hg : s.goal < 2 ^ 62) (hf : findL st.steps s = none) (hl : st.left = 0) :
    Calls Tryd.prog 39 #[.pointer (some ⟨pf, 0, none⟩), .agg (seqL s.left s.goal).toArray] w (DecPost F G K w pf t st vis ⟨st, 110, 0⟩) := by
  have H := Lib.hid h
  obtain ⟨sv, mb, kvs, hm⟩ := h
  have HB0 := Lib.hid (below_alloc w (.cells (seqL s.left s.goal).toArray 81))
  have HX := Lib.hid (BoxB.new w (seqL s.left s.goal) 81)
  have h0 := hm.below HB0.out
  obtain ⟨kl, hkl⟩ := seqKey s.left s.goal (WalkArith.wf_i64 (by omega))
  rw [← SQ.val_yes (s := s) hs] at hkl
  have hz : ∀ W, (zeroValue 3).run Tryd.prog W = .ok (.int .i64 0) W := fun _ => by kernel_rfl
  have hlk : ∀ nq, (Instr.lookup 96 (.map (some mb)) (.agg (seqL s.left s.goal).toArray) true).run Tryd.prog ((w.alloc (.cells (seqL s.left s.goal).toArray 81)).drewN nq) = .ok (.tuple #[.int .i64 0, .bool false]) ((w.alloc (.cells (seqL s.left s.goal).toArray 81)).drewN nq) := fun nq => by
    rw [← SQ.val_yes (s := s) hs]
    exact TM.look_none (h0.map.below (below_drewN _ nq)) lawSeq SQ.val_inj Tryd.underlying96 (hz _) hkl true hf
  have c2 : (w.alloc (.cells (seqL s.left s.goal).toArray 81)).cell? ⟨pf, 2, none⟩ = some (.map (some mb)) := cell_of h0.blk rfl
  have hld : ∀ nq, Loadable 81 ((w.alloc (.cells (seqL s.left s.goal).toArray 81)).drewN nq) (.pointer (some ⟨w.heap.size, 0, none⟩)) := fun nq => (loadV_is (HX.out.below (below_drewN _ nq)).loads).1
  have hlv : ∀ nq, loadV 81 ((w.alloc (.cells (seqL s.left s.goal).toArray 81)).drewN nq) (.pointer (some ⟨w.heap.size, 0, none⟩)) = _ := fun nq => (loadV_is (HX.out.below (below_drewN _ nq)).loads).2
  have c3 : (w.alloc (.cells (seqL s.left s.goal).toArray 81)).cell? ⟨pf, 3, none⟩ = some (.int .i64 0) := by
    have := cell_of (i := 3) h0.blk rfl
    rw [this, hl]; rfl
  clear hm h0 hkl hf hl hz
  go_enter Tryd.func39, Tryd.ntmps39
  go_wp2
  go_quiet (fail)
  go_wp2
  go_ret2
  exact dec_below H.out (below_trans HB0.out (below_drewN _ _)) rfl rfl
theorem FinM.set {F G K : FP} {w w' : World} {pf : Nat} {t : Value} {st : SR} {vis : Int} {sv : Value} {mb : Nat} {kvs : List Value} (h : FinM F G K w pf t st vis sv mb kvs) (ho : Only pf w w') {l : Nat} {v : Int} (hb : w'.heap[pf]? = some (.cells #[t, sv, .map (some mb), .int .i64 (l : Int), .int .i64 v] 98 (0, 0))) :
    KeptF G w G w' ∧ FinM F G K w' pf t ⟨st.rows, st.steps, l⟩ v sv mb kvs := by
  have hk : KeptF G w G w' := ⟨ho.os, ho.tape, ho.output, Nat.le_of_eq ho.size.symm, fun _ _ h => h, fun b hb => by rw [ho.size]; exact h.gin b hb, fun b _ hn => ho.block b (fun e => hn (e ▸ h.gp))⟩
  have hpm : mb ≠ pf := fun e => by
    have h1 := h.blk
    obtain ⟨l, ⟨es, clock, h2, _⟩, _⟩ := h.map
    rw [← e, h2] at h1
    cases h1
  have hps : sv.ownBlock ≠ some pf := own_ne h.row h.blk (by intro cur fr e; cases e)
  refine ⟨hk, h.tab.kept hk h.ap, hk.lt, fun b hb => by rw [ho.size]; exact h.kin b hb, h.ap, h.kf, h.kg, hb, own_same h.row fun g hg => ho.block g (fun e => hps (e ▸ hg)), h.len, fun i x v hx hv => (h.kid i x v hx hv).same (fun b hb => hk.block b (h.kin b hb) (h.kg b hb)) (fun _ h => h), h.map.same (ho.block mb hpm), h.gp, h.gm, h.gs⟩
theorem fin_enter {F G K : FP} {w : World} {pf : Nat} {t : Value} {st : SR} {vis : Int} {sv : Value} {mb : Nat} {kvs : List Value} (h : FinM F G K w pf t st vis sv mb kvs) (h0 : 0 < st.left) :
    KeptF G w G ((w.setCell ⟨pf, 3, none⟩ (.int .i64 ((st.left : Int) - 1))).setCell ⟨pf, 4, none⟩ (.int .i64 (vis + 1))) ∧ FinM F G K ((w.setCell ⟨pf, 3, none⟩ (.int .i64 ((st.left : Int) - 1))).setCell ⟨pf, 4, none⟩ (.int .i64 (vis + 1))) pf t ⟨st.rows, st.steps, st.left - 1⟩ (vis + 1) sv mb kvs := by
  refine h.set ((only_setCell w pf 3 _).trans (only_setCell _ pf 4 _)) ?_
  rw [setCell_block (setCell_block h.blk _), show ((st.left : Int) - 1) = ((st.left - 1 : Nat) : Int) by omega]
  rfl
theorem BoxB.kept2 {F F' : FP} {W W' : World} {b : Nat} {xs : List Value} {T : TypeId} (h : BoxB W b xs T) (hk : KeptF F W F' W') (hn : ¬ F b) : BoxB W' b xs T := hk.box h hn
/-- The recursion's contract. -/
def DecOK (fuel : Nat) (pf : Nat) (t : Value) : Prop := ∀ (F G K : FP) (w : World) (st : SR) (vis : Int) (s : SQ), Fin F G K w pf t st vis → FEnv F G K w → InvS st → Wf st.rows s → st.left ≤ fuel → st.steps.length + st.left ≤ 4096 → 0 ≤ vis → vis + st.left ≤ 4096 →
  Calls Tryd.prog 39 #[.pointer (some ⟨pf, 0, none⟩), .agg (seqL s.left s.goal).toArray] w (DecPost F G K w pf t st vis (decideL fuel st s))
/-- The contract of choose, behind a decision that has been entered. -/
def ChoOK (fuel : Nat) (pf : Nat) (t : Value) : Prop := ∀ (F G K : FP) (w : World) (st : SR) (vis : Int) (s : SQ), Fin F G K w pf t st vis → FEnv F G K w → InvS st → Wf st.rows s → (applyP st.rows s).1 = 14 → st.left ≤ fuel → st.steps.length + st.left ≤ 4095 → 0 ≤ vis → vis + st.left ≤ 4096 →
  Calls Tryd.prog 45 #[.pointer (some ⟨pf, 0, none⟩), .agg (seqL s.left s.goal).toArray] w (DecPost F G K w pf t st vis (chooseF (decideL fuel) s (choicesP st.rows s) st []))
set_option maxRecDepth 100000 in
set_option maxHeartbeats 2000000 in
/-- An open sequent. -/
theorem decide_open (fuel : Nat) (pf : Nat) (t : Value) (HC : ChoOK fuel pf t) (F G K : FP) (w : World) (st : SR) (vis : Int) (s : SQ) (h : Fin F G K w pf t st vis) (he : FEnv F G K w) (hi : InvS st) (wf : Wf st.rows s) (hf : findL st.steps s = none) (hl : 0 < st.left) (hfu : st.left ≤ fuel + 1) (hroom : st.steps.length + st.left ≤ 4096) (hv0 : 0 ≤ vis) (hv : vis + st.left ≤ 4096) (h14 : (applyP st.rows s).1 = 14) :
    Calls Tryd.prog 39 #[.pointer (some ⟨pf, 0, none⟩), .agg (seqL s.left s.goal).toArray] w (DecPost F G K w pf t st vis (chooseF (decideL fuel) s (choicesP st.rows s) ⟨st.rows, st.steps, st.left - 1⟩ [])) := by
  have hs := wf_lt hi.ok wf
  have hgl := wf.goal
  have hle := hi.ok.le
  obtain ⟨sv, mb, kvs, hm⟩ := h
  have HB0 := Lib.hid (below_alloc w (.cells (seqL s.left s.goal).toArray 81))
  have HX := Lib.hid (BoxB.new w (seqL s.left s.goal) 81)
  have h0 := hm.below HB0.out
  obtain ⟨kl, hkl⟩ := seqKey s.left s.goal (WalkArith.wf_i64 (by omega))
  rw [← SQ.val_yes (s := s) hs] at hkl
  have hz : ∀ W, (zeroValue 3).run Tryd.prog W = .ok (.int .i64 0) W := fun _ => by kernel_rfl
  have hlk : ∀ nq, (Instr.lookup 96 (.map (some mb)) (.agg (seqL s.left s.goal).toArray) true).run Tryd.prog ((w.alloc (.cells (seqL s.left s.goal).toArray 81)).drewN nq) = .ok (.tuple #[.int .i64 0, .bool false]) ((w.alloc (.cells (seqL s.left s.goal).toArray 81)).drewN nq) := fun nq => by
    rw [← SQ.val_yes (s := s) hs]
    exact TM.look_none (h0.map.below (below_drewN _ nq)) lawSeq SQ.val_inj Tryd.underlying96 (hz _) hkl true hf
  have c2 : (w.alloc (.cells (seqL s.left s.goal).toArray 81)).cell? ⟨pf, 2, none⟩ = some (.map (some mb)) := cell_of h0.blk rfl
  have hld : ∀ nq, Loadable 81 ((w.alloc (.cells (seqL s.left s.goal).toArray 81)).drewN nq) (.pointer (some ⟨w.heap.size, 0, none⟩)) := fun nq => (loadV_is (HX.out.below (below_drewN _ nq)).loads).1
  have hlv : ∀ nq, loadV 81 ((w.alloc (.cells (seqL s.left s.goal).toArray 81)).drewN nq) (.pointer (some ⟨w.heap.size, 0, none⟩)) = _ := fun nq => (loadV_is (HX.out.below (below_drewN _ nq)).loads).2
  have hlz : (st.left == 0) = false := by simpa using (show st.left ≠ 0 by omega)
  have HM := Lib.hid hm; have HE := Lib.hid he; have HI := Lib.hid hi; have HW := Lib.hid wf; have H14 := Lib.hid h14
  obtain ⟨r, hr⟩ : ∃ r, chooseF (decideL fuel) s (choicesP st.rows s) ⟨st.rows, st.steps, st.left - 1⟩ [] = r := ⟨_, rfl⟩
  have HR : Hid (r.st.left ≤ st.left - 1) := by rw [← hr]; exact (chooseF_room (decideL_room fuel) s _ _ _).left
  rw [hr]
  have HRR := Lib.hid hr
  clear hr
  have HN : Hid (0 < st.left ∧ st.left ≤ fuel + 1 ∧ st.steps.length + st.left ≤ 4096 ∧ 0 ≤ vis ∧ vis + st.left ≤ 4096) := ⟨hl, hfu, hroom, hv0, hv⟩
  have H0 := Lib.hid h0
  clear hm h0 hkl hf hz he hi wf h14
  go_enter Tryd.func39, Tryd.ntmps39
  go_wp2
  go_quiet (fail)
  have HM1 := Lib.hid (H0.out.below (below_drewN (w.alloc (.cells (seqL s.left s.goal).toArray 81)) nq))
  have HX1 := Lib.hid (HX.out.below (below_drewN (w.alloc (.cells (seqL s.left s.goal).toArray 81)) nq))
  have HB1 := Lib.hid (below_trans HB0.out (below_drewN (w.alloc (.cells (seqL s.left s.goal).toArray 81)) nq))
  clear c2 hld hlv hlk
  generalize ((w.alloc (.cells (seqL s.left s.goal).toArray 81)).drewN nq) = W1 at *
  have c3 : W1.cell? ⟨pf, 3, none⟩ = some (.int .i64 (st.left : Int)) := cell_of HM1.out.blk rfl
  have c4 : W1.cell? ⟨pf, 4, none⟩ = some (.int .i64 vis) := cell_of HM1.out.blk rfl
  have f3 := frozen_of (i := 3) HM1.out.blk
  have f4 := frozen_of (i := 4) HM1.out.blk
  go_wp2
  have hfe := fin_enter HM1.out hl
  have HK2 := Lib.hid hfe.1
  have HM2 := Lib.hid hfe.2
  have HX2 := Lib.hid (HX1.out.kept2 hfe.1 (fun hg => by have := HM.out.gin _ hg; omega))
  clear hfe c3 c4 f3 f4
  generalize ((W1.setCell ⟨pf, 3, none⟩ (.int .i64 ((st.left : Int) - 1))).setCell ⟨pf, 4, none⟩ (.int .i64 (vis + 1))) = W2 at *
  have HKW : Hid (KeptF (H3 F G K) w (H3 F G K) W2) := (KeptF.of_below HM.out.in_ HB1.out).trans (HK2.out.fin3 HM1.out.tab.in_ HM1.out.kin)
  have HE2 := Lib.hid (HE.out.kept HKW.out)
  have hcl : ∀ W', Aft W2 W' → W'.cell? ⟨pf, 0, none⟩ = some t := fun W' hb => cell_past hb (cell_of HM2.out.blk rfl)
  have hld : ∀ W', Aft W2 W' → Loadable 81 W' (.pointer (some ⟨w.heap.size, 0, none⟩)) := fun W' hb => (loadV_is (HX2.out.below hb).loads).1
  have hlv : ∀ W', Aft W2 W' → loadV 81 W' (.pointer (some ⟨w.heap.size, 0, none⟩)) = _ := fun W' hb => (loadV_is (HX2.out.below hb).loads).2
  have HK : Hid (∀ W', Below W2.heap.size W2 W' → Aft W2 W') := fun W' hb => hb
  have HD := Lib.hid (below_drewN W2 1)
  have HA : Hid (∀ W, Below W2.heap.size W2 W → Calls Tryd.prog 44 #[t, .agg (seqL s.left s.goal).toArray] W fun e w' => e = .returned (.tuple #[.int .i64 14, .int .i64 ((applyP st.rows s).2 : Int), .int .i64 0]) ∧ Below W.heap.size W w') := fun W hb => by
    have := rApply_ok 0 _ W t st.rows ((HM2.out.tab.col 0).below hb) (HE2.out.g.below hb) s HW.out
    rw [H14.out] at this
    exact this
  go_region_held3 (fun W' => Aft W2 W')
    ((refine HK.out _ ?_; first | exact HB3.out | exact HD.out))
    ((go_at_call 44; refine (HA.out _ HD.out).mono ?_; rintro e W3 ⟨rfl, hb3⟩; have HB3 := Lib.hid (below_trans HD.out hb3); clear hb3))
  have HX3 := Lib.hid (HX2.out.below HB3.out)
  have HM3 : Hid (Fin F G K W3 pf t ⟨st.rows, st.steps, st.left - 1⟩ (vis + 1)) := ⟨_, _, _, HM2.out.below HB3.out⟩
  have HC3 := Lib.hid (HC F G K W3 _ (vis + 1) s HM3.out (HE2.out.below HB3.out) (HI.out.ext HI.out.ok (List.prefix_refl _) _) HW.out H14.out (by show st.left - 1 ≤ fuel; omega) (by show st.steps.length + (st.left - 1) ≤ 4095; omega) (by omega) (by show vis + 1 + ((st.left - 1 : Nat) : Int) ≤ 4096; omega))
  clear hcl hld hlv
  simp only at HC3
  rw [HRR.out] at HC3
  go_wp2_with (first
    | (refine wp_loadSeq (.tmp 3) rfl rfl rfl HX3.out ?_)
    | (go_at_call 45; refine HC3.out.mono ?_; rintro e W4 ⟨rfl, F4, G4, K4, hk4, hf4⟩; have HK4 := Lib.hid hk4; have HF4 := Lib.hid hf4; clear hk4 hf4))
  go_ret2
  refine ⟨rfl, F4, G4, K4, (HKW.out.trans (KeptF.of_below HM2.out.in_ HB3.out)).trans HK4.out, ?_⟩
  have h1 := HF4.out
  have h2 := HR.out
  rw [show vis + ((st.left - r.st.left : Nat) : Int) = vis + 1 + ((st.left - 1 - r.st.left : Nat) : Int) by omega]
  exact h1
end Go.Dk
end
