/- The document's Simple, walked. -/
import Derived.Test.YtmlohibhoibgkaaZp
import Derived.Test.YtmlohibhoibgkaaRg
namespace Go.Dk
open Go.RowKit Go.Maps Go.MapKept
open Go.Proofs hiding intOf

theorem simpler07_any (k : Nat) (ow : Own) (w : World) (t : Value) (rows : List ND) (h : RTab k ow w t rows) (kd : Int) (hk : 3 ≤ kd ∧ kd ≤ 5) (l r x : Nat) (nm : ByteArray) (a b : Int) (hl : l < rows.length) (hr : r < rows.length) :
    Calls Try.prog 48 #[t, .int .i64 kd, .int .i64 (l : Int), .int .i64 (r : Int)] w (RPutPost k ow w t (simpOf rows x ⟨kd, nm, a, b⟩ (l : Int) (r : Int))) := by
  obtain rfl | rfl | rfl : kd = 3 ∨ kd = 4 ∨ kd = 5 := by omega
  · exact simpler07_3 k ow w t rows h l r x nm a b hl hr
  · exact simpler07_4 k ow w t rows h l r x nm a b hl hr
  · exact simpler07_5 k ow w t rows h l r x nm a b hl hr

/-- A list of images, made. -/
theorem makeInts (w : World) (n : Nat) (h0 : 0 < n) (hn : n ≤ 1024) : ∃ w', (Instr.makeSlice 73 (.int .i64 (n : Int)) (.int .i64 (n : Int))).run Try.prog w = .ok (.slice (some ⟨w.heap.size, 0, none⟩) n n) w' ∧
    w'.ownsRow w.heap.size 3 1 (.slice (some ⟨w.heap.size, 0, none⟩) n n) n (ints (List.replicate n 0)) ∧ w.grownBy w' none := by
  obtain ⟨inf, hi1, hi2, hi3, hi4⟩ := infoIntZ
  obtain ⟨w1, hmk1, hown1, hgr1⟩ := run_makeSlice_full (P := Try.prog) w w.heap.size 73 3 inf (.int .i64 0) 1 Try.underlying73 hi1 hi2 hi3 .i64 .i64 n (by omega) (by rw [hi4]; omega) (by unfold maxLen; omega) (Nat.le_refl _)
  have hz : (madeCells (Value.int .i64 0).cells (n * 1)).toList = ints (List.replicate n 0) := by
    rw [show (Value.int .i64 0).cells = #[.int .i64 0] from rfl, toList_madeCells_one]
    simp [ints]
  rw [hz] at hown1
  exact ⟨w1, hmk1, hown1, hgr1⟩

set_option maxRecDepth 100000 in
set_option maxHeartbeats 4000000 in
theorem refSimple_yes (k : Nat) (ow : Own) (w : World) (t : Value) (rows : List ND) (h : RTab k ow w t rows) (id : Nat) (hid : id < rows.length) :
    Calls Try.prog 20 #[t, .int .i64 (id : Int)] w (RPutPost k ow w t (anewP simpOf rows id)) := by
  have hok := h.ok
  have hle := hok.le
  have H := Lib.hid h
  have HK := Lib.hid hok
  have HR := refHas_any k ow w t rows h (id : Int)
  rw [show hasB rows.length (id : Int) = true by simp [hasB, hid]] at HR
  have HRH := Lib.hid HR
  obtain ⟨rb, v, rfl, ht⟩ := h
  obtain ⟨g, c, rfl, hg, _⟩ := ht.hr.get (by omega)
  have c0 : w.cell? ⟨rb, 0, none⟩ = some (.slice (some ⟨g, 0, none⟩) rows.length c) := cell_of ht.hp rfl
  clear ht hg HR hok
  have hlb := below_le rows id
  go_enter Try.func20, Try.ntmps20
  go_wp2_with (first
    | (go_at_call 8; refine HRH.out.mono ?_; rintro e w' ⟨rfl, rfl⟩)
    | (go_at_call 32; refine (refBelow_yes k ow _ _ _ H.out id hid).mono ?_; rintro e w2 ⟨v2, rfl, hown2, hb2⟩; obtain ⟨w3, hmk, him, hgr⟩ := makeInts w2 rows.length (by omega) (by omega); have HI := Lib.hid (AnR.start (of := simpOf) H.out hb2 hown2 (fun g hg => (hown2.lt g hg).2) hgr him); obtain ⟨a2, c2, hv2⟩ := own_slice hown2; subst hv2; clear hown2 hb2 him hgr))
  go_loopw [10] (fun i W => ∃ (j : Nat) (ow' : Own) (rowsj : List ND) (img : Nat → Int) (zs : List Int), j ≤ (below rows id).length ∧ i = .int .i64 (j : Int) ∧ AnR k simpOf ow w (.pointer (some ⟨rb, 0, none⟩)) rows id w2.heap.size (.slice a2 (below rows id).length c2) j ow' W rowsj img zs) (fun i _ => (below rows id).length - (intOf i).toNat)
  case atStart => exact ⟨0, _, _, _, _, Nat.zero_le _, rfl, HI.out⟩
  case round =>
    obtain ⟨j, ow', rowsj, img, zs, hj, rfl, hI⟩ := hrel
    have HJ := Lib.hid hI
    by_cases hlt : j < (below rows id).length
    · obtain ⟨b, o, c1, x', he, hc1, hxk'⟩ := ints_at (rd_own hI.own) hlt
      cases he
      obtain ⟨x, hx⟩ : ∃ x, (below rows id)[j]? = some x := ⟨_, List.getElem?_eq_getElem hlt⟩
      obtain rfl : x' = (x : Int) := by
        have : (natInts (below rows id))[j]? = some (x : Int) := by simp [natInts, hx]
        rw [this] at hxk'; exact (Option.some.inj hxk').symm
      have hxi : x ≤ id := ((mem_below HK.out).1 (List.mem_of_getElem? hx)).le HK.out
      have hpl := prefix_length hI.pre
      have hxl : x < rows.length := by omega
      have hrow := rowAt_get (rows := rowsj) (i := x) (by omega)
      have hra : rowAt rowsj x = rowAt rows x := rowAt_prefix hI.pre hxl
      have hprt := hI.parts HK.out hid hx
      rw [← hra] at hprt
      have hp0 : pAt simpOf rowsj x img = simpOf rowsj x (rowAt rowsj x) (if 3 ≤ (rowAt rowsj x).kind then img (rowAt rowsj x).l.toNat else 0) (if 3 ≤ (rowAt rowsj x).kind then img (rowAt rowsj x).r.toNat else 0) := rfl
      have hok2 := hI.tab.ok
      have hle2 := hok2.le
      have HRG := Lib.hid (fun (l r : Nat) hl hr => simpOf_rg rows rowsj x l r hok2 hI.pre hxl hl hr)
      have hkk := hok2.kinds hrow
      have hpt := hok2.parts hrow
      have hfn := fits_le (hok2.fit _ _ hrow)
      obtain ⟨rb', v', e, htw⟩ := hI.tab
      cases e
      obtain ⟨g', c', rfl, r0, r1, r2, r3, r4⟩ := htw.row hrow
      clear hra
      generalize rowAt rowsj x = n at *
      obtain ⟨kd, nm, l', r'⟩ := n
      simp only at hfn hp0 hkk r1 r2 r3 r4 hprt hpt
      obtain ⟨l, rfl⟩ := Int.eq_ofNat_of_zero_le hfn.2.2.1.1
      obtain ⟨r, rfl⟩ := Int.eq_ofNat_of_zero_le hfn.2.2.2.1
      simp only [Int.toNat_natCast] at hp0 hprt
      have HX := Lib.hid hx
      have hji : (j : Int) < ((below rows id).length : Int) := by omega
      have hxr : (x : Int) < (rowsj.length : Int) := by omega
      have hxr0 : (x : Int) < (rows.length : Int) := by omega
      have HNI := Lib.hid (hI.notin hx)
      have HZL : Hid (zs.length = rows.length) := hI.il.1
      have HXL := Lib.hid hxl
      have HPL := Lib.hid hpl
      clear hI hrow htw
      go_wp2_with fail
      obtain ⟨I0, _, F, i0, i1, hF⟩ := twoI wr.drew (wr.drew.alloc (.cells #[.int .i64 0, .string ByteArray.empty, .int .i64 0, .int .i64 0] 36))
      have a0 := alloc_both hF hc1
      have b0 := alloc_both hF r0; have b1 := alloc_both hF r1; have b2 := alloc_both hF r2; have b3 := alloc_both hF r3; have b4 := alloc_both hF r4
      have HF := Lib.hid hF
      clear hF
      refine wp_eventI 11 _ (.pointer (some ⟨wr.heap.size, 0, none⟩)) HF.out (by kernel_rfl) (by kernel_rfl) rfl (fun ρ => by simp [go_sem]; rfl) rfl ?_
      simp only [Nat.reduceSub, List.take_succ_cons, List.take_zero, List.drop_succ_cons, List.drop_zero]
      repeat (go_big_quiet_step (fail))
      refine wpQuiet_nil ?_
      clear a0 b0 b1 b2 b3 b4
      go_wp2_with fail
      have HJ1 := Lib.hid (HJ.out.later (below_trans (below_alloc wr (.cells #[.int .i64 kd, .string nm, .int .i64 (l : Int), .int .i64 (r : Int)] 36)) (below_drewN _ 1)))
      have HBX : Hid (Boxed ((wr.alloc (.cells #[.int .i64 kd, .string nm, .int .i64 (l : Int), .int .i64 (r : Int)] 36)).drewN 1) wr.heap.size ⟨kd, nm, l, r⟩) := (boxed_new wr ⟨kd, nm, l, r⟩ _).below (below_drewN _ 1)
      have HNE : Hid (wr.heap.size ≠ w2.heap.size) := by have := HJ.out.lt.2; unfold Hid; omega
      have hc2 : ((wr.alloc (.cells #[.int .i64 kd, .string nm, .int .i64 (l : Int), .int .i64 (r : Int)] 36)).drewN 1).cell? ⟨b, o + j, none⟩ = some (.int .i64 (x : Int)) := ((below_trans (below_alloc wr _) (below_drewN _ 1)).cell (World.block_lt_of_cell? _ _ hc1)).trans hc1
      clear hc1 r0 r1 r2 r3 r4 HF HJ
      rw [show (wr.alloc (.cells #[.int .i64 kd, .string nm, .int .i64 (l : Int), .int .i64 (r : Int)] 36)).drew = (wr.alloc (.cells #[.int .i64 kd, .string nm, .int .i64 (l : Int), .int .i64 (r : Int)] 36)).drewN 1 from rfl]
      generalize (wr.alloc (.cells #[.int .i64 kd, .string nm, .int .i64 (l : Int), .int .i64 (r : Int)] 36)).drewN 1 = W1 at *
      generalize wr.heap.size = xb at *
      obtain ⟨z0, hz0⟩ : ∃ z, zs[x]? = some z := ⟨_, List.getElem?_eq_getElem (by rw [HZL.out]; exact hxl)⟩
      have HZ0 := Lib.hid hz0
      clear hz0
      obtain ⟨I1, _, F1, L1⟩ := later W1
      have a0 := L1.cell hc2
      have HL1 := Lib.hid L1
      clear L1 hc2
      refine wp_tailW (W := F1) 10 (by kernel_rfl) (by kernel_rfl) HL1.out.drew ?_
      simp only [List.take_succ_cons, List.take_zero, List.drop_succ_cons, List.drop_zero]
      repeat (go_big_quiet_step (fail))
      refine wpQuiet_nil ?_
      intro w6 hw6
      obtain ⟨i6, hw6⟩ := hw6
      subst hw6
      have HJ2 := Lib.hid (HJ1.out.later (HL1.out.bel i6))
      have HB2 := Lib.hid (HBX.out.below (HL1.out.bel i6))
      have a2 := a0 i6
      clear a0 HL1 HJ1 HBX
      generalize F1 i6 = W2 at *
      have d0 := HJ2.out.cell HZ0.out
      have f0 := HJ2.out.fr x
      have HS := Lib.hid (HJ2.out.store HNI.out (x : Int))
      have HBS := Lib.hid (HB2.out.set HNE.out (i := x) (.int .i64 (x : Int)))
      have q0 := HBS.out.c0; have q2 := HBS.out.c2; have q3 := HBS.out.c3
      have a3 : (W2.setCell ⟨w2.heap.size, x, none⟩ (.int .i64 (x : Int))).cell? ⟨b, o + j, none⟩ = some (.int .i64 (x : Int)) := by
        obtain ⟨b', o', c1', z', e1', h1', h2'⟩ := ints_at (rd_own HS.out.own) hlt
        cases e1'
        rw [hxk'] at h2'
        cases h2'
        exact h1'
      simp only at q0 q2 q3
      by_cases h3 : 3 ≤ kd
      · obtain ⟨m1, m2⟩ := hprt h3
        obtain ⟨il, hil, hill⟩ := HJ2.out.rg l m1
        obtain ⟨ir, hir, hirl⟩ := HJ2.out.rg r m2
        rw [if_pos h3, if_pos h3, hil, hir] at hp0
        have hpt3 := hpt h3
        have hlx : l ≠ x := by omega
        have hrx : r ≠ x := by omega
        have zl : (zs.set x (x : Int))[l]? = some (il : Int) := by rw [List.getElem?_set_ne (Ne.symm hlx), HJ2.out.il.2 l m1, hil]
        have zr : (zs.set x (x : Int))[r]? = some (ir : Int) := by rw [List.getElem?_set_ne (Ne.symm hrx), HJ2.out.il.2 r m2, hir]
        have HZL2 := Lib.hid zl; have HZR2 := Lib.hid zr
        have hll : l < rows.length := by omega
        have hrl : r < rows.length := by omega
        have hlI : (l : Int) < (rows.length : Int) := by omega
        have hrI : (r : Int) < (rows.length : Int) := by omega
        have HKD : Hid (3 ≤ kd ∧ kd ≤ 5) := ⟨h3, hkk.2⟩
        have hne1 : (kd == 1) = false := by simp; omega
        have hne2 : (kd == 2) = false := by simp; omega
        have HP0 := Lib.hid hp0
        have HIL : Hid (il < rowsj.length ∧ ir < rowsj.length) := ⟨hill, hirl⟩
        have HG2 := HRG.out il ir hill hirl
        have HG := Lib.hid HG2
        clear hp0 zl zr hil hir m1 m2 hprt HRG HG2 hkk h3 hfn hpt hpt3
        go_wp2_with fail
        clear d0 f0 a2 HJ2 HB2
        generalize W2.setCell ⟨w2.heap.size, x, none⟩ (.int .i64 (x : Int)) = W3 at *
        obtain ⟨I2, _, F2, L2⟩ := later W3
        have e0 := L2.cell q0; have e2 := L2.cell q2; have e3 := L2.cell q3
        have e4 := L2.cell (HS.out.cell HZL2.out); have e5 := L2.cell (HS.out.cell HZR2.out)
        have HL2 := Lib.hid L2
        clear L2 q0 q2 q3
        refine wp_callW (W := F2) 13 _ 48 (by kernel_rfl) (by kernel_rfl) HL2.out.drew rfl rfl ?_
        simp only [List.take_succ_cons, List.take_zero, List.drop_succ_cons, List.drop_zero]
        repeat (go_big_quiet_step (fail))
        refine wpQuiet_nil ?_
        refine ⟨_, fun w' => by simp [go_sem]; rfl, ?_⟩
        rintro w7 ⟨i7, rfl⟩
        have HS4 := Lib.hid (HS.out.later (HL2.out.bel i7))
        clear e0 e2 e3 e4 e5 HL2 HS
        generalize F2 i7 = W4 at *
        refine (simpler07_any k ow' W4 _ rowsj HS4.out.tab kd HKD.out il ir x nm (l : Int) (r : Int) HIL.out.1 HIL.out.2).mono ?_
        rintro e w8 ⟨rfl, ow8, hk8, ht8⟩
        have HK8 := Lib.hid hk8; have HT8 := Lib.hid ht8
        clear hk8 ht8
        generalize simpOf rowsj x ⟨kd, nm, (l : Int), (r : Int)⟩ (il : Int) (ir : Int) = p at *
        refine ⟨_, rfl, ?_⟩
        simp only [Act.put, List.setIfInBounds_toArray, List.set_cons_succ, List.set_cons_zero]
        repeat (go_big_quiet_step (fail))
        refine wpQuiet_nil ?_
        by_cases hz : p.err = 0
        · as_aux_lemma =>
          have gz : (p.err != 0) = false := by simp [hz]
          obtain ⟨i, hpi, hpl⟩ := HG.out.2 hz
          have HZ := Lib.hid hz; have HPI := Lib.hid hpi; have HPLL := Lib.hid hpl
          have HN := Lib.hid (HS4.out.next HX.out HP0.out hz HG.out.1 HK8.out HT8.out hpi hpl HXL.out (.inr trivial) rfl)
          obtain ⟨k1, k2, k3, k4, k5⟩ := HS4.out.tabbed HK8.out
          obtain ⟨b', o', c1', z', e1', h1', h2'⟩ := ints_at (rd_own k2) hlt
          cases e1'
          rw [hxk'] at h2'
          cases h2'
          have d0 : w8.cell? ⟨w2.heap.size, x, none⟩ = some (.int .i64 (x : Int)) := by
            rw [k3.cellAt x (by have := HXL.out; omega)]
            simp [ints, HZL.out, HXL.out]
          have f0 : w8.frozen? ⟨w2.heap.size, x, none⟩ = false := k3.frozenAt x
          rw [List.set_set] at HN
          clear hz hpi hpl k1 k2 k3 k4 k5 HS4 HK8 HT8
          go_wp2_with fail
          exact ⟨⟨j + 1, _, _, _, _, by omega, by go_num, HN.out⟩, by simp [intOf]; omega⟩
        · as_aux_lemma =>
          have gz : (p.err != 0) = true := by simp [hz]
          have HZ := Lib.hid hz
          have HST : Hid (anewP simpOf rows id = ⟨rows, 0, p.err⟩) := by
            rw [Hid, anewP_stop HX.out HS4.out.st (by rw [HP0.out]; exact HZ.out), HP0.out]
          clear hz
          go_wp2_with (go_at_call 49; refine (kept07_any k ow8 _ _ rows p.rows HT8.out (HS4.out.pre.trans HG.out.1) 0 p.err HZ.out).mono ?_; rintro e w9 ⟨rfl, ow9, hk9, ht9⟩; have HF9 : Hid (Kept k ow w ow9 w9 ∧ RTab k ow9 w9 (.pointer (some ⟨rb, 0, none⟩)) rows) := ⟨(HS4.out.kp.trans HK8.out).trans hk9, ht9⟩; clear hk9 ht9)
          go_ret2
          rw [HST.out]
          exact ⟨rfl, _, HF9.out.1, HF9.out.2⟩
      · have hp1 : simpOf rowsj x ⟨kd, nm, (l : Int), (r : Int)⟩ 0 0 = ⟨rowsj, (x : Int), 0⟩ := by
          unfold simpOf
          rw [if_neg (by simp only; omega), if_neg (by simp only; omega), if_neg (by simp only; omega)]
        rw [if_neg h3, if_neg h3, hp1] at hp0
        have HP0 := Lib.hid hp0
        have hk2 : kd = 1 ∨ kd = 2 := by omega
        have HN := Lib.hid (HJ2.out.next HX.out hp0 rfl (List.prefix_refl _) (Kept.refl _ _ _) HJ2.out.tab rfl (by show x < rowsj.length; omega) hxl (.inr trivial) rfl)
        clear hp0 hp1 h3 hkk hfn hprt HRG a3 q2 q3
        rcases hk2 with rfl | rfl
        all_goals
          as_aux_lemma =>
          go_wp2_with fail
          exact ⟨⟨j + 1, _, _, _, _, by omega, by go_num, HN.out⟩, by simp [intOf]; omega⟩
    · obtain rfl : j = (below rows id).length := by omega
      have hst := hI.st
      rw [List.take_length] at hst
      have HST : Hid (anewP simpOf rows id = ⟨rowsj, img id, 0⟩) := anewP_end hst
      have hin : id ∈ (below rows id).take (below rows id).length := by rw [List.take_length]; exact (mem_below HK.out).2 (.refl _)
      have hid0 : (id : Int) < (rows.length : Int) := by omega
      have d0 := hI.cell (hI.il.2 id hin)
      have HKP := Lib.hid hI.kp
      have HTB := Lib.hid hI.tab
      clear hI hst hin
      go_wp2_with fail
      go_ret2
      rw [HST.out]
      exact ⟨rfl, _, HKP.out, HTB.out⟩

end Go.Dk

