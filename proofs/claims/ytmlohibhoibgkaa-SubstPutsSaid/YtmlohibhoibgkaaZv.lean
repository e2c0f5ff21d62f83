/- The document's Replace, Put, Frame, walked. -/
import Derived.Test.YtmlohibhoibgkaaZp
import Derived.Test.YtmlohibhoibgkaaZt
namespace Go.Dk
open Go.RowKit Go.Maps Go.MapKept
open Go.Proofs hiding intOf

set_option maxRecDepth 100000 in
theorem refReplace_no (k : Nat) (ow : Own) (w : World) (t : Value) (rows : List ND) (h : RTab k ow w t rows) (id old by' : Int) (hb : hasB rows.length id = false ∨ hasB rows.length old = false ∨ hasB rows.length by' = false) :
    Calls Try.prog 24 #[t, .int .i64 id, .int .i64 old, .int .i64 by'] w (RPutPost k ow w t (replP rows id old by')) := by
  have H := Lib.hid h
  have HE : Hid (replP rows id old by' = ⟨rows, 0, 31⟩) := by unfold Hid replP; rw [if_pos hb]
  have H1 := Lib.hid (refHas_any k ow w t rows h id)
  have H2 := Lib.hid (refHas_any k ow w t rows h old)
  have H3 := Lib.hid (refHas_any k ow w t rows h by')
  clear h
  cases h1 : hasB rows.length id <;> cases h2 : hasB rows.length old <;> cases h3 : hasB rows.length by'
  all_goals first | (exfalso; simp_all; done) | skip
  all_goals
    rw [h1] at H1; rw [h2] at H2; rw [h3] at H3
    clear h1 h2 h3 hb
    as_aux_lemma =>
    go_enter Try.func24, Try.ntmps24
    go_wp2_with (first
      | (go_at_call_of 8 (Value.int IntKind.i64 id); refine H1.out.mono ?_; rintro e w' ⟨rfl, rfl⟩)
      | (go_at_call_of 8 (Value.int IntKind.i64 old); refine H2.out.mono ?_; rintro e w' ⟨rfl, rfl⟩)
      | (go_at_call_of 8 (Value.int IntKind.i64 by'); refine H3.out.mono ?_; rintro e w' ⟨rfl, rfl⟩))
    go_ret2
    rw [HE.out]
    exact ⟨rfl, ow, Kept.refl _ _ _, H.out⟩
set_option maxRecDepth 100000 in
set_option maxHeartbeats 4000000 in
theorem refReplace_yes (k : Nat) (ow : Own) (w : World) (t : Value) (rows : List ND) (h : RTab k ow w t rows) (id b' : Nat) (old : Int) (hid : id < rows.length) (ho : hasB rows.length old = true) (hbl : b' < rows.length) :
    Calls Try.prog 24 #[t, .int .i64 (id : Int), .int .i64 old, .int .i64 (b' : Int)] w (RPutPost k ow w t (anewP (replOf old (b' : Int)) rows id)) := by
  have hok := h.ok
  have hle := hok.le
  have H := Lib.hid h
  have HK := Lib.hid hok
  have H1 := refHas_any k ow w t rows h (id : Int)
  rw [show hasB rows.length (id : Int) = true by simp [hasB, hid]] at H1
  have H2 := refHas_any k ow w t rows h old
  rw [ho] at H2
  have H3 := refHas_any k ow w t rows h (b' : Int)
  rw [show hasB rows.length (b' : Int) = true by simp [hasB, hbl]] at H3
  have HR1 := Lib.hid H1; have HR2 := Lib.hid H2; have HR3 := Lib.hid H3
  obtain ⟨rb, v, rfl, ht⟩ := h
  obtain ⟨g, c, rfl, hg, _⟩ := ht.hr.get (by omega)
  have c0 : w.cell? ⟨rb, 0, none⟩ = some (.slice (some ⟨g, 0, none⟩) rows.length c) := cell_of ht.hp rfl
  clear ht hg H1 H2 H3 hok ho
  have hlb := below_le rows id
  go_enter Try.func24, Try.ntmps24
  go_wp2_with (first
    | (go_at_call_of 8 (Value.int IntKind.i64 (id : Int)); refine HR1.out.mono ?_; rintro e w' ⟨rfl, rfl⟩)
    | (go_at_call_of 8 (Value.int IntKind.i64 old); refine HR2.out.mono ?_; rintro e w' ⟨rfl, rfl⟩)
    | (go_at_call_of 8 (Value.int IntKind.i64 (b' : Int)); refine HR3.out.mono ?_; rintro e w' ⟨rfl, rfl⟩)
    | (go_at_call 32; refine (refBelow_yes k ow _ _ _ H.out id hid).mono ?_; rintro e w2 ⟨v2, rfl, hown2, hb2⟩; obtain ⟨w3, hmk, him, hgr⟩ := makeInts w2 rows.length (by omega) (by omega); have HI := Lib.hid (AnR.start (of := replOf old (b' : Int)) H.out hb2 hown2 (fun g hg => (hown2.lt g hg).2) hgr him); obtain ⟨a2, c2, hv2⟩ := own_slice hown2; subst hv2; clear hown2 hb2 him hgr))
  go_loopw [14] (fun i W => ∃ (j : Nat) (ow' : Own) (rowsj : List ND) (img : Nat → Int) (zs : List Int), j ≤ (below rows id).length ∧ i = .int .i64 (j : Int) ∧ AnR k (replOf old (b' : Int)) ow w (.pointer (some ⟨rb, 0, none⟩)) rows id w2.heap.size (.slice a2 (below rows id).length c2) j ow' W rowsj img zs) (fun i _ => (below rows id).length - (intOf i).toNat)
  case atStart => exact ⟨0, _, _, _, _, Nat.zero_le _, rfl, HI.out⟩
  case round =>
    obtain ⟨j, ow', rowsj, img, zs, hj, rfl, hI⟩ := hrel
    have HJ := Lib.hid hI
    by_cases hlt : j < (below rows id).length
    · obtain ⟨b, o, c1, x', he, hc1, hxk'⟩ := ints_at (rd_own hI.own) hlt
      cases he
      obtain ⟨x, hx⟩ : ∃ x, (below rows id)[j]? = some x := ⟨_, List.getElem?_eq_getElem hlt⟩
      obtain rfl : x' = (x : Int) := by
        have : (natInts (below rows id))[j]? = some (x : Int) := by simp [natInts, hx]
        rw [this] at hxk'; exact (Option.some.inj hxk').symm
      have hxi : x ≤ id := ((mem_below HK.out).1 (List.mem_of_getElem? hx)).le HK.out
      have hpl := prefix_length hI.pre
      have hxl : x < rows.length := by omega
      have hrow := rowAt_get (rows := rowsj) (i := x) (by omega)
      have hra : rowAt rowsj x = rowAt rows x := rowAt_prefix hI.pre hxl
      have hprt := hI.parts HK.out hid hx
      rw [← hra] at hprt
      have hp0 : pAt (replOf old (b' : Int)) rowsj x img = replOf old (b' : Int) rowsj x (rowAt rowsj x) (if 3 ≤ (rowAt rowsj x).kind then img (rowAt rowsj x).l.toNat else 0) (if 3 ≤ (rowAt rowsj x).kind then img (rowAt rowsj x).r.toNat else 0) := rfl
      have hok2 := hI.tab.ok
      have hle2 := hok2.le
      have HRG := Lib.hid (fun (l r : Nat) hl hr => replOf_rg old hbl rowsj x l r hok2 hI.pre hxl hl hr)
      have hkk := hok2.kinds hrow
      have hpt := hok2.parts hrow
      have hfn := fits_le (hok2.fit _ _ hrow)
      obtain ⟨rb', v', e, htw⟩ := hI.tab
      cases e
      obtain ⟨g', c', rfl, r0, r1, r2, r3, r4⟩ := htw.row hrow
      clear hra
      generalize rowAt rowsj x = n at *
      obtain ⟨kd, nm, l', r'⟩ := n
      simp only at hfn hp0 hkk r1 r2 r3 r4 hprt hpt
      obtain ⟨l, rfl⟩ := Int.eq_ofNat_of_zero_le hfn.2.2.1.1
      obtain ⟨r, rfl⟩ := Int.eq_ofNat_of_zero_le hfn.2.2.2.1
      simp only [Int.toNat_natCast] at hp0 hprt
      have HX := Lib.hid hx
      have hji : (j : Int) < ((below rows id).length : Int) := by omega
      have hxr : (x : Int) < (rowsj.length : Int) := by omega
      have hxr0 : (x : Int) < (rows.length : Int) := by omega
      have HNI := Lib.hid (hI.notin hx)
      have HZL : Hid (zs.length = rows.length) := hI.il.1
      have HXL := Lib.hid hxl
      have HPL := Lib.hid hpl
      clear hI hrow htw
      go_wp2_with fail
      obtain ⟨I0, _, F, i0, i1, hF⟩ := twoI wr.drew (wr.drew.alloc (.cells #[.int .i64 0, .string ByteArray.empty, .int .i64 0, .int .i64 0] 36))
      have a0 := alloc_both hF hc1
      have b0 := alloc_both hF r0; have b1 := alloc_both hF r1; have b2 := alloc_both hF r2; have b3 := alloc_both hF r3; have b4 := alloc_both hF r4
      have HF := Lib.hid hF
      clear hF
      refine wp_eventI 11 _ (.pointer (some ⟨wr.heap.size, 0, none⟩)) HF.out (by kernel_rfl) (by kernel_rfl) rfl (fun ρ => by simp [go_sem]; rfl) rfl ?_
      simp only [Nat.reduceSub, List.take_succ_cons, List.take_zero, List.drop_succ_cons, List.drop_zero]
      repeat (go_big_quiet_step (fail))
      refine wpQuiet_nil ?_
      clear a0 b0 b1 b2 b3 b4
      go_wp2_with fail
      have HJ1 := Lib.hid (HJ.out.later (below_trans (below_alloc wr (.cells #[.int .i64 kd, .string nm, .int .i64 (l : Int), .int .i64 (r : Int)] 36)) (below_drewN _ 1)))
      have HBX : Hid (Boxed ((wr.alloc (.cells #[.int .i64 kd, .string nm, .int .i64 (l : Int), .int .i64 (r : Int)] 36)).drewN 1) wr.heap.size ⟨kd, nm, l, r⟩) := (boxed_new wr ⟨kd, nm, l, r⟩ _).below (below_drewN _ 1)
      have HNE : Hid (wr.heap.size ≠ w2.heap.size) := by have := HJ.out.lt.2; unfold Hid; omega
      have hc2 : ((wr.alloc (.cells #[.int .i64 kd, .string nm, .int .i64 (l : Int), .int .i64 (r : Int)] 36)).drewN 1).cell? ⟨b, o + j, none⟩ = some (.int .i64 (x : Int)) := ((below_trans (below_alloc wr _) (below_drewN _ 1)).cell (World.block_lt_of_cell? _ _ hc1)).trans hc1
      clear hc1 r0 r1 r2 r3 r4 HF HJ
      rw [show (wr.alloc (.cells #[.int .i64 kd, .string nm, .int .i64 (l : Int), .int .i64 (r : Int)] 36)).drew = (wr.alloc (.cells #[.int .i64 kd, .string nm, .int .i64 (l : Int), .int .i64 (r : Int)] 36)).drewN 1 from rfl]
      generalize (wr.alloc (.cells #[.int .i64 kd, .string nm, .int .i64 (l : Int), .int .i64 (r : Int)] 36)).drewN 1 = W1 at *
      generalize wr.heap.size = xb at *
      obtain ⟨z0, hz0⟩ : ∃ z, zs[x]? = some z := ⟨_, List.getElem?_eq_getElem (by rw [HZL.out]; exact hxl)⟩
      have HZ0 := Lib.hid hz0
      clear hz0
      obtain ⟨I1, _, F1, L1⟩ := later W1
      have a0 := L1.cell hc2
      have HL1 := Lib.hid L1
      clear L1 hc2
      refine wp_tailW (W := F1) 10 (by kernel_rfl) (by kernel_rfl) HL1.out.drew ?_
      simp only [List.take_succ_cons, List.take_zero, List.drop_succ_cons, List.drop_zero]
      repeat (go_big_quiet_step (fail))
      refine wpQuiet_nil ?_
      intro w6 hw6
      obtain ⟨i6, hw6⟩ := hw6
      subst hw6
      have HJ2 := Lib.hid (HJ1.out.later (HL1.out.bel i6))
      have HB2 := Lib.hid (HBX.out.below (HL1.out.bel i6))
      have a2 := a0 i6
      clear a0 HL1 HJ1 HBX
      generalize F1 i6 = W2 at *
      have d0 := HJ2.out.cell HZ0.out
      have f0 := HJ2.out.fr x
      have HS := Lib.hid (HJ2.out.store HNI.out (x : Int))
      have HBS := Lib.hid (HB2.out.set HNE.out (i := x) (.int .i64 (x : Int)))
      have q0 := HBS.out.c0; have q2 := HBS.out.c2; have q3 := HBS.out.c3
      have a3 : (W2.setCell ⟨w2.heap.size, x, none⟩ (.int .i64 (x : Int))).cell? ⟨b, o + j, none⟩ = some (.int .i64 (x : Int)) := by
        obtain ⟨b', o', c1', z', e1', h1', h2'⟩ := ints_at (rd_own HS.out.own) hlt
        cases e1'
        rw [hxk'] at h2'
        cases h2'
        exact h1'
      simp only at q0 q2 q3
      by_cases hox : (x : Int) = old
      · as_aux_lemma =>
        have hob : ((x : Int) == old) = true := by simpa using hox
        have hp1 : pAt (replOf old (b' : Int)) rowsj x img = ⟨rowsj, (b' : Int), 0⟩ := by
          rw [hp0]
          unfold replOf
          rw [if_pos hox]
        have HN := Lib.hid (HS.out.next HX.out hp1 rfl (List.prefix_refl _) (Kept.refl _ _ _) HS.out.tab rfl (by show b' < rowsj.length; omega) hxl (.inr trivial) rfl)
        have d1 := HS.out.cell (List.getElem?_set_self (by rw [HZL.out]; exact hxl))
        have f1 := HS.out.fr x
        clear hp1 hox hp0 hprt hpt
        go_wp2_with fail
        exact ⟨⟨j + 1, _, _, _, _, by omega, by go_num, HN.out⟩, by simp [intOf]; omega⟩
      · have hob : ((x : Int) == old) = false := by simpa using hox
        by_cases h3 : 3 ≤ kd
        · obtain ⟨m1, m2⟩ := hprt h3
          obtain ⟨il, hil, hill⟩ := HJ2.out.rg l m1
          obtain ⟨ir, hir, hirl⟩ := HJ2.out.rg r m2
          rw [if_pos h3, if_pos h3, hil, hir] at hp0
          have hpp : replOf old (b' : Int) rowsj x ⟨kd, nm, (l : Int), (r : Int)⟩ (il : Int) (ir : Int) = put rowsj ⟨kd, ⟨#[]⟩, (il : Int), (ir : Int)⟩ := by
            unfold replOf plainP
            rw [if_neg hox, if_neg (by simp only; omega)]; rfl
          have hpt3 := hpt h3
          have hlx : l ≠ x := by omega
          have hrx : r ≠ x := by omega
          have zl : (zs.set x (x : Int))[l]? = some (il : Int) := by rw [List.getElem?_set_ne (Ne.symm hlx), HJ2.out.il.2 l m1, hil]
          have zr : (zs.set x (x : Int))[r]? = some (ir : Int) := by rw [List.getElem?_set_ne (Ne.symm hrx), HJ2.out.il.2 r m2, hir]
          have HZL2 := Lib.hid zl; have HZR2 := Lib.hid zr
          have hll : l < rows.length := by omega
          have hrl : r < rows.length := by omega
          have hlI : (l : Int) < (rows.length : Int) := by omega
          have hrI : (r : Int) < (rows.length : Int) := by omega
          have HKD : Hid (3 ≤ kd ∧ kd ≤ 5) := ⟨h3, hkk.2⟩
          have hne1 : (kd == 1) = false := by simp; omega
          have hne2 : (kd == 2) = false := by simp; omega
          rw [hpp] at hp0
          have HP0 := Lib.hid hp0
          have HIL : Hid (il < rowsj.length ∧ ir < rowsj.length) := ⟨hill, hirl⟩
          have HG2 := HRG.out il ir hill hirl
          rw [hpp] at HG2
          have HG := Lib.hid HG2
          clear hp0 hpp zl zr hil hir m1 m2 hprt HRG HG2 hkk h3 hfn hpt hpt3
          go_wp2_with fail
          clear d0 f0 a2 HJ2 HB2
          generalize W2.setCell ⟨w2.heap.size, x, none⟩ (.int .i64 (x : Int)) = W3 at *
          obtain ⟨I2, _, F2, L2⟩ := later W3
          have e0 := L2.cell q0; have e2 := L2.cell q2; have e3 := L2.cell q3
          have e4 := L2.cell (HS.out.cell HZL2.out); have e5 := L2.cell (HS.out.cell HZR2.out)
          have HL2 := Lib.hid L2
          clear L2 q0 q2 q3
          refine wp_callW (W := F2) 13 _ 52 (by kernel_rfl) (by kernel_rfl) HL2.out.drew rfl rfl ?_
          simp only [List.take_succ_cons, List.take_zero, List.drop_succ_cons, List.drop_zero]
          repeat (go_big_quiet_step (fail))
          refine wpQuiet_nil ?_
          refine ⟨_, fun w' => by simp [go_sem]; rfl, ?_⟩
          rintro w7 ⟨i7, rfl⟩
          have HS4 := Lib.hid (HS.out.later (HL2.out.bel i7))
          clear e0 e2 e3 e4 e5 HL2 HS
          generalize F2 i7 = W4 at *
          refine (refTwo_any k ow' W4 _ rowsj HS4.out.tab kd (il : Int) (ir : Int)).mono ?_
          rintro e w8 ⟨rfl, ow8, hk8, ht8⟩
          have HK8 := Lib.hid hk8; have HT8 := Lib.hid ht8
          clear hk8 ht8
          generalize put rowsj ⟨kd, ⟨#[]⟩, (il : Int), (ir : Int)⟩ = p at *
          refine ⟨_, rfl, ?_⟩
          simp only [Act.put, List.setIfInBounds_toArray, List.set_cons_succ, List.set_cons_zero]
          repeat (go_big_quiet_step (fail))
          refine wpQuiet_nil ?_
          by_cases hz : p.err = 0
          · as_aux_lemma =>
            have gz : (p.err != 0) = false := by simp [hz]
            obtain ⟨i, hpi, hpl⟩ := HG.out.2 hz
            have HZ := Lib.hid hz; have HPI := Lib.hid hpi; have HPLL := Lib.hid hpl
            have HN := Lib.hid (HS4.out.next HX.out HP0.out hz HG.out.1 HK8.out HT8.out hpi hpl HXL.out (.inr trivial) rfl)
            obtain ⟨k1, k2, k3, k4, k5⟩ := HS4.out.tabbed HK8.out
            obtain ⟨b', o', c1', z', e1', h1', h2'⟩ := ints_at (rd_own k2) hlt
            cases e1'
            rw [hxk'] at h2'
            cases h2'
            have d0 : w8.cell? ⟨w2.heap.size, x, none⟩ = some (.int .i64 (x : Int)) := by
              rw [k3.cellAt x (by have := HXL.out; omega)]
              simp [ints, HZL.out, HXL.out]
            have f0 : w8.frozen? ⟨w2.heap.size, x, none⟩ = false := k3.frozenAt x
            rw [List.set_set] at HN
            clear hz hpi hpl k1 k2 k3 k4 k5 HS4 HK8 HT8
            go_wp2_with fail
            exact ⟨⟨j + 1, _, _, _, _, by omega, by go_num, HN.out⟩, by simp [intOf]; omega⟩
          · as_aux_lemma =>
            have gz : (p.err != 0) = true := by simp [hz]
            have HZ := Lib.hid hz
            have HST : Hid (anewP (replOf old (b' : Int)) rows id = ⟨rows, 0, p.err⟩) := by
              rw [Hid, anewP_stop HX.out HS4.out.st (by rw [HP0.out]; exact HZ.out), HP0.out]
            clear hz
            go_wp2_with (go_at_call 49; refine (kept07_any k ow8 _ _ rows p.rows HT8.out (HS4.out.pre.trans HG.out.1) 0 p.err HZ.out).mono ?_; rintro e w9 ⟨rfl, ow9, hk9, ht9⟩; have HF9 : Hid (Kept k ow w ow9 w9 ∧ RTab k ow9 w9 (.pointer (some ⟨rb, 0, none⟩)) rows) := ⟨(HS4.out.kp.trans HK8.out).trans hk9, ht9⟩; clear hk9 ht9)
            go_ret2
            rw [HST.out]
            exact ⟨rfl, _, HF9.out.1, HF9.out.2⟩
        · have hp1 : replOf old (b' : Int) rowsj x ⟨kd, nm, (l : Int), (r : Int)⟩ 0 0 = ⟨rowsj, (x : Int), 0⟩ := by
            unfold replOf plainP
            rw [if_neg hox, if_pos (by simp only; omega)]
          rw [if_neg h3, if_neg h3, hp1] at hp0
          have HP0 := Lib.hid hp0
          have hk2 : kd = 1 ∨ kd = 2 := by omega
          have HN := Lib.hid (HJ2.out.next HX.out hp0 rfl (List.prefix_refl _) (Kept.refl _ _ _) HJ2.out.tab rfl (by show x < rowsj.length; omega) hxl (.inr trivial) rfl)
          clear hp0 hp1 h3 hkk hfn hprt HRG q2 q3
          rcases hk2 with rfl | rfl
          all_goals
            as_aux_lemma =>
            go_wp2_with fail
            exact ⟨⟨j + 1, _, _, _, _, by omega, by go_num, HN.out⟩, by simp [intOf]; omega⟩
    · obtain rfl : j = (below rows id).length := by omega
      have hst := hI.st
      rw [List.take_length] at hst
      have HST : Hid (anewP (replOf old (b' : Int)) rows id = ⟨rowsj, img id, 0⟩) := anewP_end hst
      have hin : id ∈ (below rows id).take (below rows id).length := by rw [List.take_length]; exact (mem_below HK.out).2 (.refl _)
      have hid0 : (id : Int) < (rows.length : Int) := by omega
      have d0 := hI.cell (hI.il.2 id hin)
      have HKP := Lib.hid hI.kp
      have HTB := Lib.hid hI.tab
      clear hI hst hin
      go_wp2_with fail
      go_ret2
      rw [HST.out]
      exact ⟨rfl, _, HKP.out, HTB.out⟩
set_option maxRecDepth 100000 in
set_option maxHeartbeats 8000000 in
theorem refPut_yes (k : Nat) (ow : Own) (w : World) (t : Value) (rows : List ND) (h : RTab k ow w t rows) (id : Nat) (hid : id < rows.length) (v : Value) (l0 : List HY) (hn : ∀ x ∈ l0, x.name.size ≤ maxLen)
    (hv : ∀ ow' W, Kept k ow w ow' W → Rd W v l0.length 2 (hyCells l0)) (hl : l0.length ≤ 9223372036854775807) :
    Calls Try.prog 22 #[t, .int .i64 (id : Int), v] w (RPutPost k ow w t (putP rows (id : Int) l0)) := by
  have hok := h.ok
  have hle := hok.le
  have H := Lib.hid h
  have HK := Lib.hid hok
  have HV := Lib.hid hv; have HNL := Lib.hid hn; have HL0 := Lib.hid hl
  have H1 := refHas_any k ow w t rows h (id : Int)
  rw [show hasB rows.length (id : Int) = true by simp [hasB, hid]] at H1
  have HR1 := Lib.hid H1
  have HID : Hid (hasB rows.length (id : Int) = true) := by simp [Hid, hasB, hid]
  have HBEL : Hid (∀ W, Below w.heap.size w W → RTab k ow W t rows) := fun W hb => h.below hb
  obtain ⟨rb, v', rfl, ht⟩ := h
  obtain ⟨g, c, rfl, hg, _⟩ := ht.hr.get (by omega)
  have HC0 : Hid (w.cell? ⟨rb, 0, none⟩ = some (.slice (some ⟨g, 0, none⟩) rows.length c)) := cell_of ht.hp rfl
  obtain ⟨va, vc, rfl⟩ := (hv _ _ (Kept.refl _ _ _)).slice
  clear ht hg H1 hok hn
  have hlb := below_le rows id
  go_enter Try.func22, Try.ntmps22
  go_wp2_with (go_at_call 8; refine HR1.out.mono ?_; rintro e w' ⟨rfl, rfl⟩)
  go_loop [8] (fun i => ∃ j : Nat, j ≤ l0.length ∧ i = .int .i64 (j : Int) ∧ hyB rows (l0.take j) = true) (fun i => l0.length - (intOf i).toNat)
  case atStart => exact ⟨0, Nat.zero_le _, rfl, rfl⟩
  case round =>
    obtain ⟨j, hj, rfl, hfm⟩ := hrel
    by_cases hlt : j < l0.length
    · as_aux_lemma =>
      obtain ⟨b, o, c1, y, e1, y0, y1, hy⟩ := hy_at (HV.out _ _ (Kept.refl _ _ _)) hlt
      cases e1
      have hji : (j : Int) < (l0.length : Int) := by omega
      have HH := refHas_any k ow w _ rows H.out y.form
      cases hb : hasB rows.length y.form with
      | true =>
        rw [hb] at HH
        have HHH := Lib.hid HH
        have HN : Hid (hyB rows (l0.take (j + 1)) = true) := by
          unfold Hid hyB at *
          rw [List.take_add_one, hy]
          simp only [Option.toList_some, List.all_append, hfm, List.all_cons, hb, List.all_nil, Bool.and_self]
        clear hfm hb HH hy
        go_wp2_with (go_at_call 8; refine HHH.out.mono ?_; rintro e w' ⟨rfl, rfl⟩)
        exact ⟨⟨j + 1, by omega, by go_num, HN.out⟩, by simp [intOf]; omega⟩
      | false =>
        rw [hb] at HH
        have HHH := Lib.hid HH
        have HP : Hid (putP rows (id : Int) l0 = ⟨rows, 0, 31⟩) := by
          unfold Hid putP
          refine if_pos (.inr ?_)
          unfold hyB
          rw [List.all_eq_false]
          exact ⟨y, List.mem_of_getElem? hy, by rw [hb]; simp⟩
        clear hfm hb HH hy
        go_wp2_with (go_at_call 8; refine HHH.out.mono ?_; rintro e w' ⟨rfl, rfl⟩)
        go_ret2
        rw [HP.out]
        exact ⟨rfl, ow, Kept.refl _ _ _, H.out⟩
    · as_aux_lemma =>
      rw [List.take_of_length_le (by omega)] at hfm
      have HFM := Lib.hid hfm
      obtain rfl : j = l0.length := by omega
      clear hfm
      go_wp2_with fail
      go_loopw [9] (fun i W => ∃ j : Nat, j ≤ l0.length ∧ i = .int .i64 (j : Int) ∧ ((l0.take j).map (·.name)).Nodup ∧ Below w.heap.size w W) (fun i _ => l0.length - (intOf i).toNat)
      case atStart => exact ⟨0, Nat.zero_le _, rfl, by simp, Below.refl _ _⟩
      case round =>
        obtain ⟨j, hj, rfl, hnd, hbl⟩ := hrel
        have HND := Lib.hid hnd; have HBL := Lib.hid hbl
        clear hnd hbl
        by_cases hlt : j < l0.length
        · as_aux_lemma =>
          obtain ⟨y, hy⟩ : ∃ y, l0[j]? = some y := ⟨_, List.getElem?_eq_getElem hlt⟩
          have HY := Lib.hid hy
          have hji : (j : Int) < (l0.length : Int) := by omega
          clear hy
          go_wp2_with fail
          go_loopw [10] (fun i W => ∃ q : Nat, q ≤ j ∧ i = .int .i64 (q : Int) ∧ namedF (l0.take q) y.name = none ∧ Below w.heap.size w W) (fun i _ => j - (intOf i).toNat)
          case atStart => exact ⟨0, Nat.zero_le _, rfl, rfl, HBL.out⟩
          case round =>
            obtain ⟨q, hq, rfl, hnf, hbq⟩ := hrel
            have HNF := Lib.hid hnf; have HBQ := Lib.hid hbq
            clear hnf hbq
            by_cases hq1 : q < j
            · as_aux_lemma =>
              obtain ⟨b, o, c1, y', e1, y0, y1, hy'⟩ := hy_at (HV.out _ _ HBQ.out.kept_ow) hlt
              cases e1
              obtain rfl : y = y' := by have := HY.out; rw [hy'] at this; exact (Option.some.inj this).symm
              obtain ⟨b2, o2, c2, z, e2, z0, z1, hz⟩ := hy_at (HV.out _ _ HBQ.out.kept_ow) (k := q) (by omega)
              cases e2
              have HZ := Lib.hid hz
              have hqj : (q : Int) < (j : Int) := by omega
              have hql : (q : Int) < (l0.length : Int) := by omega
              obtain ⟨yn, yf⟩ := y
              obtain ⟨zn, zf⟩ := z
              simp only at y0 z0 HNF
              have heq := nameEq zn yn
              clear y1 z1 hy' hz
              by_cases e : zn = yn
              · have HP : Hid (putP rows (id : Int) l0 = ⟨rows, 0, 70⟩) := by
                  unfold Hid putP
                  rw [if_neg (by rw [HID.out, HFM.out]; simp), if_pos]
                  have h1 : (l0.take j)[q]? = some ⟨zn, zf⟩ := by rw [List.getElem?_take_of_lt hq1]; exact HZ.out
                  have h2 := namedF_at (s := yn) h1 (by rw [List.take_take, Nat.min_eq_left (by omega)]; exact HNF.out) e
                  exact twice_at HY.out h2
                simp only [e, decide_true] at heq
                rw [e] at z0
                clear e
                go_wp2
                go_quiet (fail)
                have HB3 := Lib.hid (below_trans HBQ.out (below_drewN wr nq))
                clear z0 y0
                go_wp2
                go_ret2
                rw [HP.out]
                exact ⟨rfl, ow, HB3.out.kept_ow, HBEL.out _ HB3.out⟩
              · have HN := Lib.hid (namedF_step HZ.out HNF.out e)
                simp only [e, decide_false] at heq
                clear e
                go_wp2
                go_quiet (fail)
                have HB3 := Lib.hid (below_trans HBQ.out (below_drewN wr nq))
                clear z0 y0
                go_wp2
                exact ⟨⟨q + 1, by omega, by go_num, HN.out, HB3.out⟩, by simp [intOf]; omega⟩
            · as_aux_lemma =>
              obtain rfl : q = j := by omega
              have HN : Hid (((l0.take (q + 1)).map (·.name)).Nodup) := by
                unfold Hid
                rw [List.take_add_one, HY.out]
                simp only [Option.toList_some]
                exact (nodup_snoc HND.out).2 HNF.out
              go_wp2_with fail
              exact ⟨⟨q + 1, by omega, by go_num, HN.out, HBQ.out⟩, by simp [intOf]; omega⟩
        · as_aux_lemma =>
          obtain rfl : j = l0.length := by omega
          have hnd := HND.out
          rw [List.take_length] at hnd
          have HTW : Hid (twiceB l0 = false) := by unfold Hid twiceB; simp [hnd]
          clear hnd HND
          go_wp2_with fail
          go_loopw [11] (fun i W => ∃ j : Nat, j ≤ l0.length ∧ i = .int .i64 (j : Int) ∧ wordsB (l0.take j) = true ∧ Below w.heap.size w W) (fun i _ => l0.length - (intOf i).toNat)
          case atStart => exact ⟨0, Nat.zero_le _, rfl, rfl, HBL.out⟩
          case round =>
            obtain ⟨j, hj, rfl, hwd, hbl⟩ := hrel
            have HBW := Lib.hid hbl
            clear hbl
            by_cases hlt : j < l0.length
            · as_aux_lemma =>
              obtain ⟨b, o, c1, y, e1, y0, y1, hy⟩ := hy_at (HV.out _ _ HBW.out.kept_ow) hlt
              cases e1
              have hji : (j : Int) < (l0.length : Int) := by omega
              have HWO := refWord_any y.name wr (HNL.out y (List.mem_of_getElem? hy))
              cases hb : word y.name with
              | true =>
                rw [hb] at HWO
                have HHH := Lib.hid HWO
                have HN : Hid (wordsB (l0.take (j + 1)) = true) := by
                  unfold Hid wordsB at *
                  rw [List.take_add_one, hy]
                  simp only [Option.toList_some, List.all_append, hwd, List.all_cons, hb, List.all_nil, Bool.and_self]
                clear hwd hb HWO hy
                go_wp2_with (go_at_call 50; refine HHH.out.mono ?_; rintro e w5 ⟨rfl, hb5⟩; have HB5 := Lib.hid (below_trans HBW.out hb5); clear hb5)
                exact ⟨⟨j + 1, by omega, by go_num, HN.out, HB5.out⟩, by simp [intOf]; omega⟩
              | false =>
                rw [hb] at HWO
                have HHH := Lib.hid HWO
                have HP : Hid (putP rows (id : Int) l0 = ⟨rows, 0, 32⟩) := by
                  unfold Hid putP
                  rw [if_neg (by rw [HID.out, HFM.out]; simp), if_neg (by rw [HTW.out]; simp), if_pos (words_at hy hb)]
                clear hwd hb HWO hy
                go_wp2_with (go_at_call 50; refine HHH.out.mono ?_; rintro e w5 ⟨rfl, hb5⟩; have HB5 := Lib.hid (below_trans HBW.out hb5); clear hb5)
                go_ret2
                rw [HP.out]
                exact ⟨rfl, ow, HB5.out.kept_ow, HBEL.out _ HB5.out⟩
            · as_aux_lemma =>
              rw [List.take_of_length_le (by omega)] at hwd
              obtain rfl : j = l0.length := by omega
              have HPUT : Hid (putP rows (id : Int) l0 = anewP (putOf (namedF l0)) rows id) := by
                unfold Hid putP
                rw [if_neg (by rw [HID.out, HFM.out]; simp), if_neg (by rw [HTW.out]; simp), if_neg (by rw [hwd]; simp), Int.toNat_natCast]
              clear hwd
              have HTM := Lib.hid (HBEL.out _ HBW.out)
              have c0 := (HBW.out.cell (World.block_lt_of_cell? _ _ HC0.out)).trans HC0.out
              have HWM : Hid (∃ wm : World, wm = wr) := ⟨_, rfl⟩
              obtain ⟨wm, hwm⟩ := HWM.out
              subst hwm
              clear HWM
              go_wp2_with (go_at_call 32; refine (refBelow_yes k ow _ _ _ HTM.out id hid).mono ?_; rintro e w2 ⟨v2, rfl, hown2, hb2⟩; obtain ⟨w3, hmk, him, hgr⟩ := makeInts w2 rows.length (by omega) (by omega); have HI := Lib.hid (AnR.start (of := putOf (namedF l0)) HTM.out hb2 hown2 (fun g hg => (hown2.lt g hg).2) hgr him); obtain ⟨a2, c2, hv2⟩ := own_slice hown2; subst hv2; clear hown2 hb2 him hgr)
              go_loopw [16] (fun i W => ∃ (j : Nat) (ow' : Own) (rowsj : List ND) (img : Nat → Int) (zs : List Int), j ≤ (below rows id).length ∧ i = .int .i64 (j : Int) ∧ AnR k (putOf (namedF l0)) ow wm (.pointer (some ⟨rb, 0, none⟩)) rows id w2.heap.size (.slice a2 (below rows id).length c2) j ow' W rowsj img zs) (fun i _ => (below rows id).length - (intOf i).toNat)
              case atStart => exact ⟨0, _, _, _, _, Nat.zero_le _, rfl, HI.out⟩
              case round =>
                obtain ⟨j, ow', rowsj, img, zs, hj, rfl, hI⟩ := hrel
                have HJ := Lib.hid hI
                by_cases hlt : j < (below rows id).length
                · obtain ⟨b, o, c1, x', he, hc1, hxk'⟩ := ints_at (rd_own hI.own) hlt
                  cases he
                  obtain ⟨x, hx⟩ : ∃ x, (below rows id)[j]? = some x := ⟨_, List.getElem?_eq_getElem hlt⟩
                  obtain rfl : x' = (x : Int) := by
                    have : (natInts (below rows id))[j]? = some (x : Int) := by simp [natInts, hx]
                    rw [this] at hxk'; exact (Option.some.inj hxk').symm
                  have hxi : x ≤ id := ((mem_below HK.out).1 (List.mem_of_getElem? hx)).le HK.out
                  have hpl := prefix_length hI.pre
                  have hxl : x < rows.length := by omega
                  have hrow := rowAt_get (rows := rowsj) (i := x) (by omega)
                  have hra : rowAt rowsj x = rowAt rows x := rowAt_prefix hI.pre hxl
                  have hprt := hI.parts HK.out hid hx
                  rw [← hra] at hprt
                  have hp0 : pAt (putOf (namedF l0)) rowsj x img = putOf (namedF l0) rowsj x (rowAt rowsj x) (if 3 ≤ (rowAt rowsj x).kind then img (rowAt rowsj x).l.toNat else 0) (if 3 ≤ (rowAt rowsj x).kind then img (rowAt rowsj x).r.toNat else 0) := rfl
                  have hok2 := hI.tab.ok
                  have hle2 := hok2.le
                  have HRG := Lib.hid (fun (l r : Nat) hl hr => putOf_rg (hyB_has HFM.out) rowsj x l r hok2 hI.pre hxl hl hr)
                  have hkk := hok2.kinds hrow
                  have hpt := hok2.parts hrow
                  have hfn := fits_le (hok2.fit _ _ hrow)
                  obtain ⟨rb', v', e, htw⟩ := hI.tab
                  cases e
                  obtain ⟨g', c', rfl, r0, r1, r2, r3, r4⟩ := htw.row hrow
                  clear hra
                  generalize rowAt rowsj x = n at *
                  obtain ⟨kd, nm, l', r'⟩ := n
                  simp only at hfn hp0 hkk r1 r2 r3 r4 hprt hpt
                  obtain ⟨l, rfl⟩ := Int.eq_ofNat_of_zero_le hfn.2.2.1.1
                  obtain ⟨r, rfl⟩ := Int.eq_ofNat_of_zero_le hfn.2.2.2.1
                  simp only [Int.toNat_natCast] at hp0 hprt
                  have HX := Lib.hid hx
                  have hji : (j : Int) < ((below rows id).length : Int) := by omega
                  have hxr : (x : Int) < (rowsj.length : Int) := by omega
                  have hxr0 : (x : Int) < (rows.length : Int) := by omega
                  have HNI := Lib.hid (hI.notin hx)
                  have HZL : Hid (zs.length = rows.length) := hI.il.1
                  have HXL := Lib.hid hxl
                  have HPL := Lib.hid hpl
                  clear hI hrow htw
                  go_wp2_with fail
                  obtain ⟨I0, _, F, i0, i1, hF⟩ := twoI wr.drew (wr.drew.alloc (.cells #[.int .i64 0, .string ByteArray.empty, .int .i64 0, .int .i64 0] 36))
                  have a0 := alloc_both hF hc1
                  have b0 := alloc_both hF r0; have b1 := alloc_both hF r1; have b2 := alloc_both hF r2; have b3 := alloc_both hF r3; have b4 := alloc_both hF r4
                  have HF := Lib.hid hF
                  clear hF
                  refine wp_eventI 11 _ (.pointer (some ⟨wr.heap.size, 0, none⟩)) HF.out (by kernel_rfl) (by kernel_rfl) rfl (fun ρ => by simp [go_sem]; rfl) rfl ?_
                  simp only [Nat.reduceSub, List.take_succ_cons, List.take_zero, List.drop_succ_cons, List.drop_zero]
                  repeat (go_big_quiet_step (fail))
                  refine wpQuiet_nil ?_
                  clear a0 b0 b1 b2 b3 b4
                  go_wp2_with fail
                  have HJ1 := Lib.hid (HJ.out.later (below_trans (below_alloc wr (.cells #[.int .i64 kd, .string nm, .int .i64 (l : Int), .int .i64 (r : Int)] 36)) (below_drewN _ 1)))
                  have HBX : Hid (Boxed ((wr.alloc (.cells #[.int .i64 kd, .string nm, .int .i64 (l : Int), .int .i64 (r : Int)] 36)).drewN 1) wr.heap.size ⟨kd, nm, l, r⟩) := (boxed_new wr ⟨kd, nm, l, r⟩ _).below (below_drewN _ 1)
                  have HNE : Hid (wr.heap.size ≠ w2.heap.size) := by have := HJ.out.lt.2; unfold Hid; omega
                  have hc2 : ((wr.alloc (.cells #[.int .i64 kd, .string nm, .int .i64 (l : Int), .int .i64 (r : Int)] 36)).drewN 1).cell? ⟨b, o + j, none⟩ = some (.int .i64 (x : Int)) := ((below_trans (below_alloc wr _) (below_drewN _ 1)).cell (World.block_lt_of_cell? _ _ hc1)).trans hc1
                  clear hc1 r0 r1 r2 r3 r4 HF HJ
                  rw [show (wr.alloc (.cells #[.int .i64 kd, .string nm, .int .i64 (l : Int), .int .i64 (r : Int)] 36)).drew = (wr.alloc (.cells #[.int .i64 kd, .string nm, .int .i64 (l : Int), .int .i64 (r : Int)] 36)).drewN 1 from rfl]
                  generalize (wr.alloc (.cells #[.int .i64 kd, .string nm, .int .i64 (l : Int), .int .i64 (r : Int)] 36)).drewN 1 = W1 at *
                  generalize wr.heap.size = xb at *
                  obtain ⟨z0, hz0⟩ : ∃ z, zs[x]? = some z := ⟨_, List.getElem?_eq_getElem (by rw [HZL.out]; exact hxl)⟩
                  have HZ0 := Lib.hid hz0
                  clear hz0
                  obtain ⟨I1, _, F1, L1⟩ := later W1
                  have a0 := L1.cell hc2
                  have HL1 := Lib.hid L1
                  clear L1 hc2
                  refine wp_tailW (W := F1) 10 (by kernel_rfl) (by kernel_rfl) HL1.out.drew ?_
                  simp only [List.take_succ_cons, List.take_zero, List.drop_succ_cons, List.drop_zero]
                  repeat (go_big_quiet_step (fail))
                  refine wpQuiet_nil ?_
                  intro w6 hw6
                  obtain ⟨i6, hw6⟩ := hw6
                  subst hw6
                  have HJ2 := Lib.hid (HJ1.out.later (HL1.out.bel i6))
                  have HB2 := Lib.hid (HBX.out.below (HL1.out.bel i6))
                  have a2 := a0 i6
                  clear a0 HL1 HJ1 HBX
                  generalize F1 i6 = W2 at *
                  have d0 := HJ2.out.cell HZ0.out
                  have f0 := HJ2.out.fr x
                  have HS := Lib.hid (HJ2.out.store HNI.out (x : Int))
                  have HBS := Lib.hid (HB2.out.set HNE.out (i := x) (.int .i64 (x : Int)))
                  have q0 := HBS.out.c0; have q2 := HBS.out.c2; have q3 := HBS.out.c3
                  have a3 : (W2.setCell ⟨w2.heap.size, x, none⟩ (.int .i64 (x : Int))).cell? ⟨b, o + j, none⟩ = some (.int .i64 (x : Int)) := by
                    obtain ⟨b', o', c1', z', e1', h1', h2'⟩ := ints_at (rd_own HS.out.own) hlt
                    cases e1'
                    rw [hxk'] at h2'
                    cases h2'
                    exact h1'
                  simp only at q0 q2 q3
                  by_cases h3 : 3 ≤ kd
                  · obtain ⟨m1, m2⟩ := hprt h3
                    obtain ⟨il, hil, hill⟩ := HJ2.out.rg l m1
                    obtain ⟨ir, hir, hirl⟩ := HJ2.out.rg r m2
                    rw [if_pos h3, if_pos h3, hil, hir] at hp0
                    have hpp : putOf (namedF l0) rowsj x ⟨kd, nm, (l : Int), (r : Int)⟩ (il : Int) (ir : Int) = put rowsj ⟨kd, ⟨#[]⟩, (il : Int), (ir : Int)⟩ := by
                      unfold putOf
                      rw [if_neg (by simp only; omega)]; rfl
                    have hpt3 := hpt h3
                    have hlx : l ≠ x := by omega
                    have hrx : r ≠ x := by omega
                    have zl : (zs.set x (x : Int))[l]? = some (il : Int) := by rw [List.getElem?_set_ne (Ne.symm hlx), HJ2.out.il.2 l m1, hil]
                    have zr : (zs.set x (x : Int))[r]? = some (ir : Int) := by rw [List.getElem?_set_ne (Ne.symm hrx), HJ2.out.il.2 r m2, hir]
                    have HZL2 := Lib.hid zl; have HZR2 := Lib.hid zr
                    have hll : l < rows.length := by omega
                    have hrl : r < rows.length := by omega
                    have hlI : (l : Int) < (rows.length : Int) := by omega
                    have hrI : (r : Int) < (rows.length : Int) := by omega
                    have HKD : Hid (3 ≤ kd ∧ kd ≤ 5) := ⟨h3, hkk.2⟩
                    have hne1 : (kd == 1) = false := by simp; omega
                    have hne2 : (kd == 2) = false := by simp; omega
                    rw [hpp] at hp0
                    have HP0 := Lib.hid hp0
                    have HIL : Hid (il < rowsj.length ∧ ir < rowsj.length) := ⟨hill, hirl⟩
                    have HG2 := HRG.out il ir hill hirl
                    rw [hpp] at HG2
                    have HG := Lib.hid HG2
                    clear hp0 hpp zl zr hil hir m1 m2 hprt HRG HG2 hkk h3 hfn hpt hpt3
                    go_wp2_with fail
                    clear d0 f0 a2 HJ2 HB2
                    generalize W2.setCell ⟨w2.heap.size, x, none⟩ (.int .i64 (x : Int)) = W3 at *
                    obtain ⟨I2, _, F2, L2⟩ := later W3
                    have e0 := L2.cell q0; have e2 := L2.cell q2; have e3 := L2.cell q3
                    have e4 := L2.cell (HS.out.cell HZL2.out); have e5 := L2.cell (HS.out.cell HZR2.out)
                    have HL2 := Lib.hid L2
                    clear L2 q0 q2 q3
                    refine wp_callW (W := F2) 13 _ 52 (by kernel_rfl) (by kernel_rfl) HL2.out.drew rfl rfl ?_
                    simp only [List.take_succ_cons, List.take_zero, List.drop_succ_cons, List.drop_zero]
                    repeat (go_big_quiet_step (fail))
                    refine wpQuiet_nil ?_
                    refine ⟨_, fun w' => by simp [go_sem]; rfl, ?_⟩
                    rintro w7 ⟨i7, rfl⟩
                    have HS4 := Lib.hid (HS.out.later (HL2.out.bel i7))
                    clear e0 e2 e3 e4 e5 HL2 HS
                    generalize F2 i7 = W4 at *
                    refine (refTwo_any k ow' W4 _ rowsj HS4.out.tab kd (il : Int) (ir : Int)).mono ?_
                    rintro e w8 ⟨rfl, ow8, hk8, ht8⟩
                    have HK8 := Lib.hid hk8; have HT8 := Lib.hid ht8
                    clear hk8 ht8
                    generalize put rowsj ⟨kd, ⟨#[]⟩, (il : Int), (ir : Int)⟩ = p at *
                    refine ⟨_, rfl, ?_⟩
                    simp only [Act.put, List.setIfInBounds_toArray, List.set_cons_succ, List.set_cons_zero]
                    repeat (go_big_quiet_step (fail))
                    refine wpQuiet_nil ?_
                    by_cases hz : p.err = 0
                    · as_aux_lemma =>
                      have gz : (p.err != 0) = false := by simp [hz]
                      obtain ⟨i, hpi, hpl⟩ := HG.out.2 hz
                      have HZ := Lib.hid hz; have HPI := Lib.hid hpi; have HPLL := Lib.hid hpl
                      have HN := Lib.hid (HS4.out.next HX.out HP0.out hz HG.out.1 HK8.out HT8.out hpi hpl HXL.out (.inr trivial) rfl)
                      obtain ⟨k1, k2, k3, k4, k5⟩ := HS4.out.tabbed HK8.out
                      obtain ⟨b', o', c1', z', e1', h1', h2'⟩ := ints_at (rd_own k2) hlt
                      cases e1'
                      rw [hxk'] at h2'
                      cases h2'
                      have d0 : w8.cell? ⟨w2.heap.size, x, none⟩ = some (.int .i64 (x : Int)) := by
                        rw [k3.cellAt x (by have := HXL.out; omega)]
                        simp [ints, HZL.out, HXL.out]
                      have f0 : w8.frozen? ⟨w2.heap.size, x, none⟩ = false := k3.frozenAt x
                      rw [List.set_set] at HN
                      clear hz hpi hpl k1 k2 k3 k4 k5 HS4 HK8 HT8
                      go_wp2_with fail
                      exact ⟨⟨j + 1, _, _, _, _, by omega, by go_num, HN.out⟩, by simp [intOf]; omega⟩
                    · as_aux_lemma =>
                      have gz : (p.err != 0) = true := by simp [hz]
                      have HZ := Lib.hid hz
                      have HST : Hid (anewP (putOf (namedF l0)) rows id = ⟨rows, 0, p.err⟩) := by
                        rw [Hid, anewP_stop HX.out HS4.out.st (by rw [HP0.out]; exact HZ.out), HP0.out]
                      clear hz
                      go_wp2_with (go_at_call 49; refine (kept07_any k ow8 _ _ rows p.rows HT8.out (HS4.out.pre.trans HG.out.1) 0 p.err HZ.out).mono ?_; rintro e w9 ⟨rfl, ow9, hk9, ht9⟩; have HF9 : Hid (Kept k ow wm ow9 w9 ∧ RTab k ow9 w9 (.pointer (some ⟨rb, 0, none⟩)) rows) := ⟨(HS4.out.kp.trans HK8.out).trans hk9, ht9⟩; clear hk9 ht9)
                      go_ret2
                      rw [HPUT.out, HST.out]
                      exact ⟨rfl, _, HBW.out.kept_ow.trans HF9.out.1, HF9.out.2⟩
                  · by_cases k1 : kd = 1
                    · as_aux_lemma =>
                      have q1 := HBS.out.c1
                      simp only at q1
                      have HNM := named07_any (W2.setCell ⟨w2.heap.size, x, none⟩ (.int .i64 (x : Int))) _ l0 nm (HV.out _ _ (HBW.out.kept_ow.trans HS.out.kp)) HL0.out
                      rw [if_neg h3, if_neg h3] at hp0
                      cases hnm : namedF l0 nm with
                      | none =>
                        have hp1 : putOf (namedF l0) rowsj x ⟨kd, nm, (l : Int), (r : Int)⟩ 0 0 = ⟨rowsj, (x : Int), 0⟩ := by
                          unfold putOf
                          rw [if_pos (by simp only; omega), if_pos k1, hnm]; rfl
                        rw [hp1] at hp0
                        rw [hnm] at HNM
                        have HNM := Lib.hid HNM
                        have HN := Lib.hid (HJ2.out.next HX.out hp0 rfl (List.prefix_refl _) (Kept.refl _ _ _) HJ2.out.tab rfl (by show x < rowsj.length; omega) hxl (.inr trivial) rfl)
                        clear hp0 hp1 h3 hkk hfn hprt HRG a3 q2 q3 hnm hpt
                        subst k1
                        go_wp2_with (go_at_call 51; refine HNM.out.mono ?_; rintro e w' ⟨rfl, hw⟩; rw [hw]; clear hw)
                        exact ⟨⟨j + 1, _, _, _, _, by omega, by go_num, HN.out⟩, by simp [intOf]; omega⟩
                      | some f =>
                        have hp1 : putOf (namedF l0) rowsj x ⟨kd, nm, (l : Int), (r : Int)⟩ 0 0 = ⟨rowsj, f, 0⟩ := by
                          unfold putOf
                          rw [if_pos (by simp only; omega), if_pos k1, hnm]; rfl
                        rw [hp1] at hp0
                        rw [hnm] at HNM
                        have HNM := Lib.hid HNM
                        obtain ⟨fn, rfl, hfl⟩ := nat_of_has (hyB_has HFM.out _ _ hnm)
                        have HN := Lib.hid (HS.out.next HX.out hp0 rfl (List.prefix_refl _) (Kept.refl _ _ _) HS.out.tab rfl (by show fn < rowsj.length; omega) hxl (.inr trivial) rfl)
                        have d1 := HS.out.cell (List.getElem?_set_self (by rw [HZL.out]; exact hxl))
                        have f1 := HS.out.fr x
                        clear hp0 hp1 h3 hkk hfn hprt HRG q2 q3 hnm hpt
                        subst k1
                        go_wp2_with (go_at_call 51; refine HNM.out.mono ?_; rintro e w' ⟨rfl, hw⟩; rw [hw]; clear hw)
                        exact ⟨⟨j + 1, _, _, _, _, by omega, by go_num, HN.out⟩, by simp [intOf]; omega⟩
                    · as_aux_lemma =>
                      have hp1 : putOf (namedF l0) rowsj x ⟨kd, nm, (l : Int), (r : Int)⟩ 0 0 = ⟨rowsj, (x : Int), 0⟩ := by
                        unfold putOf
                        rw [if_pos (by simp only; omega), if_neg k1]
                      rw [if_neg h3, if_neg h3, hp1] at hp0
                      have hk2 : kd = 2 := by omega
                      have HN := Lib.hid (HJ2.out.next HX.out hp0 rfl (List.prefix_refl _) (Kept.refl _ _ _) HJ2.out.tab rfl (by show x < rowsj.length; omega) hxl (.inr trivial) rfl)
                      clear hp0 hp1 h3 hkk hfn hprt HRG a3 q2 q3 k1 hpt
                      subst hk2
                      go_wp2_with fail
                      exact ⟨⟨j + 1, _, _, _, _, by omega, by go_num, HN.out⟩, by simp [intOf]; omega⟩
                · obtain rfl : j = (below rows id).length := by omega
                  have hst := hI.st
                  rw [List.take_length] at hst
                  have HST : Hid (anewP (putOf (namedF l0)) rows id = ⟨rowsj, img id, 0⟩) := anewP_end hst
                  have hin : id ∈ (below rows id).take (below rows id).length := by rw [List.take_length]; exact (mem_below HK.out).2 (.refl _)
                  have hid0 : (id : Int) < (rows.length : Int) := by omega
                  have d0 := hI.cell (hI.il.2 id hin)
                  have HKP := Lib.hid hI.kp
                  have HTB := Lib.hid hI.tab
                  clear hI hst hin
                  go_wp2_with fail
                  go_ret2
                  rw [HPUT.out, HST.out]
                  exact ⟨rfl, _, HBW.out.kept_ow.trans HKP.out, HTB.out⟩
theorem refReplace_any (k : Nat) (ow : Own) (w : World) (t : Value) (rows : List ND) (h : RTab k ow w t rows) (id old by' : Int) :
    Calls Try.prog 24 #[t, .int .i64 id, .int .i64 old, .int .i64 by'] w (RPutPost k ow w t (replP rows id old by')) := by
  by_cases hb : hasB rows.length id = false ∨ hasB rows.length old = false ∨ hasB rows.length by' = false
  · exact refReplace_no k ow w t rows h id old by' hb
  · have hP : replP rows id old by' = anewP (replOf old by') rows id.toNat := by unfold replP; rw [if_neg hb]
    simp only [not_or, Bool.not_eq_false] at hb
    obtain ⟨x, rfl, hx⟩ := nat_of_has hb.1
    obtain ⟨y, rfl, hy⟩ := nat_of_has hb.2.2
    rw [hP, Int.toNat_natCast]
    exact refReplace_yes k ow w t rows h x y old hx hb.2.1 hy

set_option maxRecDepth 100000 in
theorem refPut_no (k : Nat) (ow : Own) (w : World) (t v : Value) (rows : List ND) (h : RTab k ow w t rows) (id : Int) (l0 : List HY) (hb : hasB rows.length id = false) (hs : ∃ a n c, v = .slice a n c) :
    Calls Try.prog 22 #[t, .int .i64 id, v] w (RPutPost k ow w t (putP rows id l0)) := by
  have H := Lib.hid h
  have HE : Hid (putP rows id l0 = ⟨rows, 0, 31⟩) := by unfold Hid putP; rw [if_pos (.inl hb)]
  have HR := refHas_any k ow w t rows h id
  rw [hb] at HR
  have HRH := Lib.hid HR
  obtain ⟨a, n, c, rfl⟩ := hs
  clear h hb HR
  go_enter Try.func22, Try.ntmps22
  go_wp2_with (go_at_call 8; refine HRH.out.mono ?_; rintro e w' ⟨rfl, rfl⟩)
  go_ret2
  rw [HE.out]
  exact ⟨rfl, ow, Kept.refl _ _ _, H.out⟩

theorem refPut07_any (k : Nat) (ow : Own) (w : World) (t : Value) (rows : List ND) (h : RTab k ow w t rows) (id : Int) (v : Value) (l0 : List HY) (hn : ∀ x ∈ l0, x.name.size ≤ maxLen)
    (hv : ∀ ow' W, Kept k ow w ow' W → Rd W v l0.length 2 (hyCells l0)) (hl : l0.length ≤ 9223372036854775807) :
    Calls Try.prog 22 #[t, .int .i64 id, v] w (RPutPost k ow w t (putP rows id l0)) := by
  cases hb : hasB rows.length id with
  | false =>
    obtain ⟨a, c, e⟩ := (hv _ _ (Kept.refl _ _ _)).slice
    exact refPut_no k ow w t v rows h id l0 hb ⟨a, _, c, e⟩
  | true =>
    obtain ⟨x, rfl, hx⟩ := nat_of_has hb
    exact refPut_yes k ow w t rows h x hx v l0 hn hv hl

set_option maxRecDepth 100000 in
theorem refFrame_any (k : Nat) (ow : Own) (w : World) (t : Value) (rows : List ND) (h : RTab k ow w t rows) (id fill : Int) (hole : ByteArray) (hn : hole.size ≤ maxLen) :
    Calls Try.prog 26 #[t, .int .i64 id, .string hole, .int .i64 fill] w (RPutPost k ow w t (frameP rows id hole fill)) := by
  have HR : Hid (∀ o, RTab k (fun b => if b < w.heap.size then ow b else k + 1) (w.alloc o) t rows) := fun o =>
    h.kept (((below_alloc w o).kept_ow (k := k + 1)).recolour (ow'' := fun b => if b < w.heap.size then ow b else k + 1) (fun b hb => by simp [hb])) (by omega)
  have HO : Hid ((w.alloc (.cells #[.string hole, .int .i64 fill] 38)).ownsRow w.heap.size 38 2 (.slice (some ⟨w.heap.size, 0, none⟩) 1 1) 1 (hyCells [⟨hole, fill⟩])) :=
    ⟨by simp [hyCells, HY.cells], .inr ⟨w.heap.size, 1, _, rfl, Nat.le_refl _, heap_alloc_new' _ _ rfl, Nat.le_refl _, by decide, by simp, by simp [hyCells, HY.cells]⟩⟩
  clear h
  go_enter Try.func26, Try.ntmps26
  go_wp2_with fail
  refine (refPut07_any k _ _ t rows (HR.out _) id _ [⟨hole, fill⟩] (fun x hx => by simp at hx; subst hx; exact hn) (fun ow' W hk => rd_own (own_keptC HO.out hk (fun g hg => by cases hg; simp))) (by simp)).mono ?_
  rintro e w1 ⟨rfl, ow1, hk1, ht1⟩
  have HK1 : Hid (Kept k ow w ow1 w1) := ⟨hk1.os, hk1.tape, hk1.output, Nat.le_trans (by simp) hk1.size, fun b hb => by
      rw [hk1.own b (by simp; omega)]; simp [hb], fun b hb hc => by
      rw [hk1.block b (by simp; omega) (by simp [hb, hc])]
      exact (below_alloc w _).block b hb⟩
  have HT1 := Lib.hid ht1
  clear hk1 ht1
  go_wp2_with fail
  go_ret2
  exact ⟨rfl, ow1, HK1.out, HT1.out⟩

end Go.Dk

