/- The document's Depths, AllWeights, Grades. Written by wip/gentells.py. -/
import Derived.Test.YtfldpjacgeoegaaGreatTa
import Derived.Test.YtfldpjacgeoegaaGreatYx
namespace Go.Dk
open Go.RowKit Go.Maps Go.MapKept
open Go.Proofs hiding intOf

theorem upTo_next (of : ND → Int → Int → Int) (rows : List ND) (j n : Nat) : (rowF (upTo of rows j) n).set j (val of rows j) = rowF (upTo of rows (j + 1)) n := rowF_set fun y _ => by
  unfold upTo
  by_cases e : y = j
  · subst e; simp
  · simp only [e, if_false]
    by_cases h : y < j
    · rw [if_pos h, if_pos (by omega)]
    · rw [if_neg h, if_neg (by omega)]
theorem upTo_same (of : ND → Int → Int → Int) (rows : List ND) (j n : Nat) (h : val of rows j = 0) : rowF (upTo of rows j) n = rowF (upTo of rows (j + 1)) n := by
  unfold rowF
  refine List.map_congr_left fun y _ => ?_
  unfold upTo
  by_cases e : y = j
  · subst e; simp [h]
  · by_cases h : y < j
    · rw [if_pos h, if_pos (by omega)]
    · rw [if_neg h, if_neg (by omega)]
theorem upTo_at0 (of : ND → Int → Int → Int) (rows : List ND) {j n : Nat} (hn : j < n) : (rowF (upTo of rows j) n)[j]? = some 0 := by
  rw [rowF_at _ hn]; unfold upTo; rw [if_neg (by omega)]

set_option maxRecDepth 100000 in
set_option maxHeartbeats 4000000 in
theorem refDepths_any (k : Nat) (ow : Own) (w : World) (t : Value) (rows : List ND) (h : RTab k ow w t rows) (hn0 : 0 < rows.length) :
    Calls Tryz.prog 14 #[t] w (RValsPost w (vals depthOf rows)) := by
  have hok := h.ok
  have hle := hok.le
  obtain ⟨rb, v, rfl, ht⟩ := h
  obtain ⟨g, c, rfl, hg, _⟩ := ht.hr.get (by omega)
  have c0 : w.cell? ⟨rb, 0, none⟩ = some (.slice (some ⟨g, 0, none⟩) rows.length c) := cell_of ht.hp rfl
  have lrb : rb < w.heap.size := World.block_lt_of_cell? w _ c0
  obtain ⟨inf, hi1, hi2, hi3, hi4⟩ := infoIntA
  obtain ⟨w1, hmk1, hown1, hgr1⟩ := run_makeSlice_full (P := Tryz.prog) w w.heap.size 33 3 inf (.int .i64 0) 1 Tryz.underlying33 hi1 hi2 hi3 .i64 .i64 rows.length (by omega) (by rw [hi4]; omega) (by unfold maxLen; omega) (Nat.le_refl _)
  have hz : (madeCells (Value.int .i64 0).cells (rows.length * 1)).toList = ints (List.replicate rows.length 0) := by
    rw [show (Value.int .i64 0).cells = #[.int .i64 0] from rfl, toList_madeCells_one]
    simp [ints]
  rw [hz, ← upTo_start depthOf rows] at hown1
  have HI : Hid (RowI w w1 w.heap.size rows.length (rowF (upTo depthOf rows 0) rows.length)) := ⟨hown1, (Below.refl _ _).grown hgr1 (Nat.le_refl _) (by intro k hk; cases hk)⟩
  have HT := Lib.hid ht; have HK := Lib.hid hok
  clear ht hown1 hgr1 hi1 hi2 hi3 hi4 hok hz
  go_enter Tryz.func14, Tryz.ntmps14
  go_wp2_with fail
  go_loopw [4] (fun u W => ∃ j : Nat, j ≤ rows.length ∧ u = .int .i64 (j : Int) ∧ RowI w W w.heap.size rows.length (rowF (upTo depthOf rows j) rows.length)) (fun u _ => rows.length - (intOf u).toNat)
  case atStart => exact ⟨0, Nat.zero_le _, rfl, HI.out⟩
  case round =>
    obtain ⟨j, hj, rfl, hI⟩ := hrel
    have HJ := Lib.hid hI
    by_cases hlt : j < rows.length
    · have hji : (j : Int) < (rows.length : Int) := by omega
      obtain ⟨n, hn⟩ : ∃ n, rows[j]? = some n := ⟨_, List.getElem?_eq_getElem hlt⟩
      have hkk := HK.out.kinds hn
      have hprt := HK.out.parts hn
      have htw := HT.out.below hI.bl
      obtain ⟨g', c', e, r0, r1, r2, r3, r4⟩ := htw.row hn
      cases e
      obtain ⟨kd, nm, l, r⟩ := n
      simp only at hkk r1 r2 r3 r4 hprt
      have HRW : Hid (RRow wr rb g c rows.length j ⟨kd, nm, l, r⟩) := ⟨r0, r1, r2, r3, r4⟩
      clear hI htw
      by_cases hk : kd < 3
      · have HV : Hid (val depthOf rows j = 0) := by rw [Hid, val_one depth_one hn hk 0 0, depthOf, if_pos hk]
        have HTW : Hid (kd = 1 ∨ kd = 2) := by unfold Hid; omega
        clear hkk hprt hk hn
        go_wp2_with fail
        refine (two06_no _ kd l r nm HTW.out).mono ?_
        rintro e w5 ⟨rfl, hb5⟩
        have HF := Lib.hid (HJ.out.below hb5)
        clear hb5
        go_wp2_with fail
        exact ⟨⟨j + 1, by omega, by go_num, by rw [← upTo_same _ _ _ _ HV.out]; exact HF.out⟩, by simp [intOf]; omega⟩
      · have HZ := Lib.hid hk
        have HTW : Hid (kd ≠ 1 ∧ kd ≠ 2) := by unfold Hid; omega
        obtain ⟨hl, hr⟩ := hprt (by omega)
        have HKD : Hid (3 ≤ kd) := by unfold Hid; omega
        clear hkk hk hprt
        obtain ⟨l, rfl⟩ := Int.eq_ofNat_of_zero_le hl.1
        obtain ⟨r, rfl⟩ := Int.eq_ofNat_of_zero_le hr.1
        have hlj : l < j := by omega
        have hrj : r < j := by omega
        have hl2 : (l : Int) < (rows.length : Int) := by omega
        have hr2 : (r : Int) < (rows.length : Int) := by omega
        clear hl hr
        have bl := depth_bd HK.out l (by omega)
        have br := depth_bd HK.out r (by omega)
        have HV : Hid (val depthOf rows j = 1 + max (val depthOf rows l) (val depthOf rows r)) := by
          rw [Hid, val_parts HK.out hn HKD.out, depthOf, if_neg (show ¬ kd < 3 from HZ.out)]
        clear hn
        go_wp2_with fail
        refine (two06_yes _ kd l r nm HTW.out).mono ?_
        rintro e w5 ⟨rfl, hb5⟩
        have HF := Lib.hid (HJ.out.below hb5)
        obtain ⟨s0, s1, s2, s3, s4⟩ := HRW.out.below hb5
        simp only at s3 s4
        clear hb5
        go_wp2_with fail
        obtain ⟨I0, _, F0, L0⟩ := later w5
        have a0 := L0.cell s0
        have a3 := L0.cell s3
        have a4 := L0.cell s4
        have al := L0.cell (HF.out.cell (upTo_at depthOf rows hlj (by omega)))
        have ar := L0.cell (HF.out.cell (upTo_at depthOf rows hrj (by omega)))
        have aj := L0.cell (HF.out.cell (upTo_at0 depthOf rows hlt))
        have af := L0.frozen (HF.out.cell (upTo_at0 depthOf rows hlt)) (HF.out.fr j)
        clear s0 s1 s2 s3 s4 r0 r1 r2 r3 r4
        have HLt := Lib.hid L0
        clear L0
        generalize hvl : val depthOf rows l = vl at *
        generalize hvr : val depthOf rows r = vr at *
        have hm1 : 0 ≤ max vl vr ∧ max vl vr ≤ 1024 := by omega
        refine wp_tailW (W := F0) 27 (by kernel_rfl) (by kernel_rfl) HLt.out.drew ?_
        simp only [List.take_succ_cons, List.take_zero, List.drop_succ_cons, List.drop_zero]
        repeat (go_big_quiet_step (fail))
        refine wpQuiet_nil ?_
        intro w6 hw6
        obtain ⟨i6, hw6⟩ := hw6
        subst hw6
        go_wp2_with fail
        have HG := Lib.hid ((HF.out.below (HLt.out.bel i6)).set j (1 + max vl vr))
        refine ⟨⟨j + 1, by omega, by go_num, ?_⟩, by simp [intOf]; omega⟩
        have := HG.out
        rw [← HV.out, upTo_next] at this
        rw [← HV.out]
        exact this
    · obtain rfl : j = rows.length := by omega
      have HO := HJ.out
      rw [upTo_all] at HO
      have HF := Lib.hid HO
      clear hI HO
      go_wp2_with fail
      go_ret
      refine ⟨_, rfl, ?_, HF.out.bl⟩
      rw [vals_length]
      exact HF.out.own

set_option maxRecDepth 100000 in
set_option maxHeartbeats 4000000 in
theorem refAllWeights_any (k : Nat) (ow : Own) (w : World) (t : Value) (rows : List ND) (h : RTab k ow w t rows) (hn0 : 0 < rows.length) :
    Calls Tryz.prog 15 #[t] w (RValsPost w (vals weightOf rows)) := by
  have hok := h.ok
  have hle := hok.le
  obtain ⟨rb, v, rfl, ht⟩ := h
  obtain ⟨g, c, rfl, hg, _⟩ := ht.hr.get (by omega)
  have c0 : w.cell? ⟨rb, 0, none⟩ = some (.slice (some ⟨g, 0, none⟩) rows.length c) := cell_of ht.hp rfl
  have lrb : rb < w.heap.size := World.block_lt_of_cell? w _ c0
  obtain ⟨inf, hi1, hi2, hi3, hi4⟩ := infoIntA
  obtain ⟨w1, hmk1, hown1, hgr1⟩ := run_makeSlice_full (P := Tryz.prog) w w.heap.size 33 3 inf (.int .i64 0) 1 Tryz.underlying33 hi1 hi2 hi3 .i64 .i64 rows.length (by omega) (by rw [hi4]; omega) (by unfold maxLen; omega) (Nat.le_refl _)
  have hz : (madeCells (Value.int .i64 0).cells (rows.length * 1)).toList = ints (List.replicate rows.length 0) := by
    rw [show (Value.int .i64 0).cells = #[.int .i64 0] from rfl, toList_madeCells_one]
    simp [ints]
  rw [hz, ← upTo_start weightOf rows] at hown1
  have HI : Hid (RowI w w1 w.heap.size rows.length (rowF (upTo weightOf rows 0) rows.length)) := ⟨hown1, (Below.refl _ _).grown hgr1 (Nat.le_refl _) (by intro k hk; cases hk)⟩
  have HT := Lib.hid ht; have HK := Lib.hid hok
  clear ht hown1 hgr1 hi1 hi2 hi3 hi4 hok hz
  go_enter Tryz.func15, Tryz.ntmps15
  go_wp2_with fail
  go_loopw [4] (fun u W => ∃ j : Nat, j ≤ rows.length ∧ u = .int .i64 (j : Int) ∧ RowI w W w.heap.size rows.length (rowF (upTo weightOf rows j) rows.length)) (fun u _ => rows.length - (intOf u).toNat)
  case atStart => exact ⟨0, Nat.zero_le _, rfl, HI.out⟩
  case round =>
    obtain ⟨j, hj, rfl, hI⟩ := hrel
    have HJ := Lib.hid hI
    by_cases hlt : j < rows.length
    · have hji : (j : Int) < (rows.length : Int) := by omega
      obtain ⟨n, hn⟩ : ∃ n, rows[j]? = some n := ⟨_, List.getElem?_eq_getElem hlt⟩
      have hkk := HK.out.kinds hn
      have hprt := HK.out.parts hn
      have d0 := hI.cell (rowF_at _ hlt)
      have f0 := hI.fr j
      have hS := hI.set j 1
      rw [mid_set] at hS
      have HS := Lib.hid hS
      have htw := HT.out.below hS.bl
      obtain ⟨g', c', e, r0, r1, r2, r3, r4⟩ := htw.row hn
      cases e
      obtain ⟨kd, nm, l, r⟩ := n
      simp only at hkk r1 r2 r3 r4 hprt
      have HRW : Hid (RRow (wr.setCell ⟨w.heap.size, j, none⟩ (.int .i64 1)) rb g c rows.length j ⟨kd, nm, l, r⟩) := ⟨r0, r1, r2, r3, r4⟩
      clear hI htw hS
      by_cases hk : kd < 3
      · have HV : Hid (val weightOf rows j = 1) := by rw [Hid, val_one weight_one hn hk 0 0, weightOf, if_pos hk]
        have HTW : Hid (kd = 1 ∨ kd = 2) := by unfold Hid; omega
        clear hkk hprt hk hn
        go_wp2_with fail
        refine (two06_no _ kd l r nm HTW.out).mono ?_
        rintro e w5 ⟨rfl, hb5⟩
        have HF := Lib.hid (HS.out.below hb5)
        clear hb5
        go_wp2_with fail
        exact ⟨⟨j + 1, by omega, by go_num, by rw [← mid_same _ _ _ _ HV.out]; exact HF.out⟩, by simp [intOf]; omega⟩
      · have HZ := Lib.hid hk
        have HTW : Hid (kd ≠ 1 ∧ kd ≠ 2) := by unfold Hid; omega
        obtain ⟨hl, hr⟩ := hprt (by omega)
        have HKD : Hid (3 ≤ kd) := by unfold Hid; omega
        clear hkk hk hprt
        obtain ⟨l, rfl⟩ := Int.eq_ofNat_of_zero_le hl.1
        obtain ⟨r, rfl⟩ := Int.eq_ofNat_of_zero_le hr.1
        have hlj : l < j := by omega
        have hrj : r < j := by omega
        have hl2 : (l : Int) < (rows.length : Int) := by omega
        have hr2 : (r : Int) < (rows.length : Int) := by omega
        clear hl hr
        have bl := weight_bd HK.out l (by omega)
        have br := weight_bd HK.out r (by omega)
        have HL : Hid (0 ≤ val weightOf rows l ∧ val weightOf rows l ≤ MC) := ⟨by omega, bl.2⟩
        have HR : Hid (0 ≤ val weightOf rows r ∧ val weightOf rows r ≤ MC) := ⟨by omega, br.2⟩
        have HV : Hid (val weightOf rows j = if kd = 3 then capI (2 + val weightOf rows l + val weightOf rows r) else capI (1 + val weightOf rows l + val weightOf rows r)) := by
          rw [Hid, val_parts HK.out hn HKD.out, weightOf, if_neg (show ¬ kd < 3 from HZ.out)]
        clear bl br
        go_wp2_with fail
        refine (two06_yes _ kd l r nm HTW.out).mono ?_
        rintro e w5 ⟨rfl, hb5⟩
        have HF := Lib.hid (HS.out.below hb5)
        obtain ⟨s0, s1, s2, s3, s4⟩ := HRW.out.below hb5
        simp only at s3 s4
        clear hb5
        go_wp2_with fail
        obtain ⟨I0, _, F0, L0⟩ := later w5
        have a0 := L0.cell s0
        have a3 := L0.cell s3
        have a4 := L0.cell s4
        have al := L0.cell (HF.out.cell (mid_at weightOf rows 1 hlj (by omega)))
        have ar := L0.cell (HF.out.cell (mid_at weightOf rows 1 hrj (by omega)))
        have aj := L0.cell (HF.out.cell (mid_at0 weightOf rows 1 hlt))
        have af := L0.frozen (HF.out.cell (mid_at0 weightOf rows 1 hlt)) (HF.out.fr j)
        clear s0 s1 s2 s3 s4 r0 r1 r2 r3 r4
        have HLt := Lib.hid L0
        clear L0
        generalize hvl : val weightOf rows l = vl at *
        generalize hvr : val weightOf rows r = vr at *
        have HC : Hid (0 ≤ capI (vl + vr) ∧ capI (vl + vr) ≤ MC) := cap_bd (by have := HL.out.1; have := HR.out.1; omega)
        have H1 : Hid ((0 : Int) ≤ 1 ∧ (1 : Int) ≤ MC) := by unfold Hid MC; omega
        refine wp_tailW (W := F0) 27 (by kernel_rfl) (by kernel_rfl) HLt.out.drew ?_
        simp only [List.take_succ_cons, List.take_zero, List.drop_succ_cons, List.drop_zero]
        repeat (go_big_quiet_step ((first
          | (go_at_call_of 38 (capI (vl + vr)); refine Later.call_same (sum06_any 1 (capI (vl + vr)) H1.out HC.out _))
          | (go_at_call 38; refine Later.call_same (sum06_any vl vr HL.out HR.out _)))))
        refine wpQuiet_nil ?_
        intro w6 hw6
        obtain ⟨i6, hw6⟩ := hw6
        subst hw6
        have hG := (HF.out.below (HLt.out.bel i6)).set j (capI (1 + capI (vl + vr)))
        rw [mid_mid] at hG
        have HG := Lib.hid hG
        obtain ⟨g', c', e, r0, r1, _, _, _⟩ := (HT.out.below HG.out.bl).row hn
        cases e
        simp only at r1
        by_cases h3 : kd = 3
        · have g3 : (kd == 3) = true := by simpa using h3
          have HE : Hid (val weightOf rows j = capI (capI (1 + capI (vl + vr)) + 1)) := by rw [Hid, HV.out, if_pos h3, cap_and HL.out HR.out]
          have bj := HG.out.cell (mid_at0 weightOf rows (capI (1 + capI (vl + vr))) hlt)
          have bf := HG.out.fr j
          have HCC : Hid (0 ≤ capI (1 + capI (vl + vr)) ∧ capI (1 + capI (vl + vr)) ≤ MC) := cap_bd (by have := HC.out.1; omega)
          clear h3 hn hG
          generalize hmm : capI (1 + capI (vl + vr)) = m at *
          go_wp2_with (go_at_call 38; refine (sum06_any m 1 HCC.out H1.out _).mono ?_; rintro e w' ⟨rfl, rfl⟩)
          have HG2 := Lib.hid (HG.out.set j (capI (m + 1)))
          refine ⟨⟨j + 1, by omega, by go_num, ?_⟩, by simp [intOf]; omega⟩
          have := HG2.out
          rw [← HE.out, mid_next] at this
          rw [← HE.out]
          exact this
        · have g3 : (kd == 3) = false := by simpa using h3
          have HE : Hid (val weightOf rows j = capI (1 + capI (vl + vr))) := by rw [Hid, HV.out, if_neg h3, cap_cap HL.out HR.out]
          clear h3 hn hG
          go_wp2_with fail
          exact ⟨⟨j + 1, by omega, by go_num, by rw [← mid_same _ _ _ _ HE.out]; exact HG.out⟩, by simp [intOf]; omega⟩
    · obtain rfl : j = rows.length := by omega
      have HO := HJ.out
      rw [upTo_all] at HO
      have HF := Lib.hid HO
      clear hI HO
      go_wp2_with fail
      go_ret
      refine ⟨_, rfl, ?_, HF.out.bl⟩
      rw [vals_length]
      exact HF.out.own

set_option maxRecDepth 100000 in
set_option maxHeartbeats 4000000 in
theorem refGrades_any (k : Nat) (ow : Own) (w : World) (t : Value) (rows : List ND) (h : RTab k ow w t rows) (hn0 : 0 < rows.length) :
    Calls Tryz.prog 16 #[t] w (RValsPost w (vals gradeOf rows)) := by
  have hok := h.ok
  have hle := hok.le
  obtain ⟨rb, v, rfl, ht⟩ := h
  obtain ⟨g, c, rfl, hg, _⟩ := ht.hr.get (by omega)
  have c0 : w.cell? ⟨rb, 0, none⟩ = some (.slice (some ⟨g, 0, none⟩) rows.length c) := cell_of ht.hp rfl
  have lrb : rb < w.heap.size := World.block_lt_of_cell? w _ c0
  obtain ⟨inf, hi1, hi2, hi3, hi4⟩ := infoIntA
  obtain ⟨w1, hmk1, hown1, hgr1⟩ := run_makeSlice_full (P := Tryz.prog) w w.heap.size 33 3 inf (.int .i64 0) 1 Tryz.underlying33 hi1 hi2 hi3 .i64 .i64 rows.length (by omega) (by rw [hi4]; omega) (by unfold maxLen; omega) (Nat.le_refl _)
  have hz : (madeCells (Value.int .i64 0).cells (rows.length * 1)).toList = ints (List.replicate rows.length 0) := by
    rw [show (Value.int .i64 0).cells = #[.int .i64 0] from rfl, toList_madeCells_one]
    simp [ints]
  rw [hz, ← upTo_start gradeOf rows] at hown1
  have HI : Hid (RowI w w1 w.heap.size rows.length (rowF (upTo gradeOf rows 0) rows.length)) := ⟨hown1, (Below.refl _ _).grown hgr1 (Nat.le_refl _) (by intro k hk; cases hk)⟩
  have HT := Lib.hid ht; have HK := Lib.hid hok
  clear ht hown1 hgr1 hi1 hi2 hi3 hi4 hok hz
  go_enter Tryz.func16, Tryz.ntmps16
  go_wp2_with fail
  go_loopw [4] (fun u W => ∃ j : Nat, j ≤ rows.length ∧ u = .int .i64 (j : Int) ∧ RowI w W w.heap.size rows.length (rowF (upTo gradeOf rows j) rows.length)) (fun u _ => rows.length - (intOf u).toNat)
  case atStart => exact ⟨0, Nat.zero_le _, rfl, HI.out⟩
  case round =>
    obtain ⟨j, hj, rfl, hI⟩ := hrel
    have HJ := Lib.hid hI
    by_cases hlt : j < rows.length
    · have hji : (j : Int) < (rows.length : Int) := by omega
      obtain ⟨n, hn⟩ : ∃ n, rows[j]? = some n := ⟨_, List.getElem?_eq_getElem hlt⟩
      have hkk := HK.out.kinds hn
      have hprt := HK.out.parts hn
      have htw := HT.out.below hI.bl
      obtain ⟨g', c', e, r0, r1, r2, r3, r4⟩ := htw.row hn
      cases e
      obtain ⟨kd, nm, l, r⟩ := n
      simp only at hkk r1 r2 r3 r4 hprt
      have HRW : Hid (RRow wr rb g c rows.length j ⟨kd, nm, l, r⟩) := ⟨r0, r1, r2, r3, r4⟩
      clear hI htw
      have HA : Hid (RowI w (wr.alloc (.cells #[.int .i64 kd, .string nm, .int .i64 l, .int .i64 r] 51)) w.heap.size rows.length (rowF (upTo gradeOf rows j) rows.length)) := HJ.out.below (below_alloc _ _)
      have HBX : Hid (Boxed (wr.alloc (.cells #[.int .i64 kd, .string nm, .int .i64 l, .int .i64 r] 51)) wr.heap.size ⟨kd, nm, l, r⟩) := boxed_new wr ⟨kd, nm, l, r⟩ 51
      have HNE : Hid (wr.heap.size ≠ w.heap.size) := by have := (HJ.out.own.lt w.heap.size rfl).2; unfold Hid; omega
      by_cases hk : kd < 3
      · have HV : Hid (val gradeOf rows j = 0) := by rw [Hid, val_one grade_one hn hk 0 0, gradeOf, if_pos hk]
        have HTW : Hid (kd = 1 ∨ kd = 2) := by unfold Hid; omega
        clear hkk hprt hk hn
        go_wp2_with fail
        refine (two06_no _ kd l r nm HTW.out).mono ?_
        rintro e w5 ⟨rfl, hb5⟩
        have HF := Lib.hid (HA.out.below hb5)
        clear hb5
        go_wp2_with fail
        exact ⟨⟨j + 1, by omega, by go_num, by rw [← upTo_same _ _ _ _ HV.out]; exact HF.out⟩, by simp [intOf]; omega⟩
      · have HZ := Lib.hid hk
        have HTW : Hid (kd ≠ 1 ∧ kd ≠ 2) := by unfold Hid; omega
        obtain ⟨hl, hr⟩ := hprt (by omega)
        have HKD : Hid (3 ≤ kd) := by unfold Hid; omega
        clear hkk hk hprt
        obtain ⟨l, rfl⟩ := Int.eq_ofNat_of_zero_le hl.1
        obtain ⟨r, rfl⟩ := Int.eq_ofNat_of_zero_le hr.1
        have hlj : l < j := by omega
        have hrj : r < j := by omega
        have hl2 : (l : Int) < (rows.length : Int) := by omega
        have hr2 : (r : Int) < (rows.length : Int) := by omega
        clear hl hr
        have bl := grade_bd HK.out l (by omega)
        have br := grade_bd HK.out r (by omega)
        have HV : Hid (val gradeOf rows j = if kd = 5 then max (1 + val gradeOf rows l) (val gradeOf rows r) else max (val gradeOf rows l) (val gradeOf rows r)) := by
          rw [Hid, val_parts HK.out hn HKD.out, gradeOf, if_neg (show ¬ kd < 3 from HZ.out)]
        clear hn
        go_wp2_with fail
        refine (two06_yes _ kd l r nm HTW.out).mono ?_
        rintro e w5 ⟨rfl, hb5⟩
        have HF := Lib.hid (HA.out.below hb5)
        have HB5 := Lib.hid (HBX.out.below hb5)
        clear hb5 r0 r1 r2 r3 r4
        go_wp2_with fail
        generalize hvl : val gradeOf rows l = vl at *
        generalize hvr : val gradeOf rows r = vr at *
        have hm1 : 0 ≤ max vl vr ∧ max vl vr ≤ 1024 := by omega
        have hm2 : 0 ≤ max (1 + vl) vr ∧ max (1 + vl) vr ≤ 1025 := by omega
        obtain ⟨I0, _, F0, L0⟩ := later w5
        have a2 := L0.cell HB5.out.c2
        have a3 := L0.cell HB5.out.c3
        have al := L0.cell (HF.out.cell (upTo_at gradeOf rows hlj (by omega)))
        have ar := L0.cell (HF.out.cell (upTo_at gradeOf rows hrj (by omega)))
        have aj := L0.cell (HF.out.cell (upTo_at0 gradeOf rows hlt))
        have af := L0.frozen (HF.out.cell (upTo_at0 gradeOf rows hlt)) (HF.out.fr j)
        rw [hvl] at al
        rw [hvr] at ar
        have HLt := Lib.hid L0
        clear L0
        refine wp_tailW (W := F0) 14 (by kernel_rfl) (by kernel_rfl) HLt.out.drew ?_
        simp only [List.take_succ_cons, List.take_zero, List.drop_succ_cons, List.drop_zero]
        repeat (go_big_quiet_step (fail))
        refine wpQuiet_nil ?_
        intro w6 hw6
        obtain ⟨i6, hw6⟩ := hw6
        subst hw6
        have hG := (HF.out.below (HLt.out.bel i6)).set j (max vl vr)
        rw [mid_set] at hG
        have HG := Lib.hid hG
        have HB6 := Lib.hid ((HB5.out.below (HLt.out.bel i6)).other (c := w.heap.size) (i := j) (v := .int .i64 (max vl vr)) HNE.out)
        have b0 := HB6.out.c0
        simp only at b0
        clear hG
        by_cases h5 : kd = 5
        · have g5 : (kd == 5) = true := by simpa using h5
          have HE : Hid (val gradeOf rows j = max (1 + vl) vr) := by rw [Hid, HV.out, if_pos h5]
          clear h5
          go_wp2_with fail
          clear a2 a3 al ar aj af b0
          generalize (F0 i6).setCell ⟨w.heap.size, j, none⟩ (.int .i64 (max vl vr)) = w5 at *
          obtain ⟨I1, _, F1, L1⟩ := later w5
          have a2 := L1.cell HB6.out.c2
          have a3 := L1.cell HB6.out.c3
          have al := L1.cell (HG.out.cell (mid_at gradeOf rows (max vl vr) hlj (by omega)))
          have ar := L1.cell (HG.out.cell (mid_at gradeOf rows (max vl vr) hrj (by omega)))
          have aj := L1.cell (HG.out.cell (mid_at0 gradeOf rows (max vl vr) hlt))
          have af := L1.frozen (HG.out.cell (mid_at0 gradeOf rows (max vl vr) hlt)) (HG.out.fr j)
          rw [hvl] at al
          rw [hvr] at ar
          have HLu := Lib.hid L1
          clear L1
          refine wp_tailW (W := F1) 15 (by kernel_rfl) (by kernel_rfl) HLu.out.drew ?_
          simp only [List.take_succ_cons, List.take_zero, List.drop_succ_cons, List.drop_zero]
          repeat (go_big_quiet_step (fail))
          refine wpQuiet_nil ?_
          intro w8 hw8
          obtain ⟨i7, hw8⟩ := hw8
          subst hw8
          go_wp2_with fail
          have HG2 := Lib.hid ((HG.out.below (HLu.out.bel i7)).set j (max (1 + vl) vr))
          refine ⟨⟨j + 1, by omega, by go_num, ?_⟩, by simp [intOf]; omega⟩
          have := HG2.out
          rw [← HE.out, mid_next] at this
          rw [← HE.out]
          exact this
        · have g5 : (kd == 5) = false := by simpa using h5
          have HE : Hid (val gradeOf rows j = max vl vr) := by rw [Hid, HV.out, if_neg h5]
          clear h5
          go_wp2_with fail
          exact ⟨⟨j + 1, by omega, by go_num, by rw [← mid_same _ _ _ _ HE.out]; exact HG.out⟩, by simp [intOf]; omega⟩
    · obtain rfl : j = rows.length := by omega
      have HO := HJ.out
      rw [upTo_all] at HO
      have HF := Lib.hid HO
      clear hI HO
      go_wp2_with fail
      go_ret
      refine ⟨_, rfl, ?_, HF.out.bl⟩
      rw [vals_length]
      exact HF.out.own

end Go.Dk

