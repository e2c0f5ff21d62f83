/- The document's Occurs at rows that are there. -/
import Derived.Test.YtfldpjacgeoegaaYx
namespace Go.Dk
open Go.RowKit Go.Maps Go.MapKept
open Go.Proofs hiding intOf

theorem occ_imp {n : ND} {i : Nat} {f : Cnt} (h : n.kind = 5) : stepC n i f = addC (addC f n.l.toNat (f i).2 (f i).1) n.r.toNat (f i).1 (f i).2 := by
  unfold stepC; rw [if_neg (by omega), if_pos h]
theorem occ_two {n : ND} {i : Nat} {f : Cnt} (h3 : 3 ≤ n.kind) (h : n.kind ≠ 5) : stepC n i f = addC (addC f n.l.toNat (f i).1 (f i).2) n.r.toNat (f i).1 (f i).2 := by
  unfold stepC; rw [if_neg (by omega), if_neg h]

set_option maxRecDepth 100000 in
set_option maxHeartbeats 8000000 in
theorem refOccurs_yes (k : Nat) (ow : Own) (w : World) (t : Value) (rows : List ND) (h : RTab k ow w t rows) (part i : Nat) (hp : part < rows.length) (hi : i < rows.length) :
    Calls Try.prog 12 #[t, .int .i64 (part : Int), .int .i64 (i : Int)] w fun e w' => e = .returned (.tuple #[.int .i64 (occs rows i part).1, .int .i64 (occs rows i part).2, .int .i64 0]) ∧ Below w.heap.size w w' := by
  have H1 := Lib.hid (refHas_any k ow w t rows h part)
  have H2 := Lib.hid (refHas_any k ow w t rows h i)
  have hb1 : hasB rows.length (part : Int) = true := by simp [hasB, hp]
  have hb2 : hasB rows.length (i : Int) = true := by simp [hasB, hi]
  rw [hb1] at H1
  rw [hb2] at H2
  clear hb1 hb2
  have hok := h.ok
  have hle := hok.le
  obtain ⟨rb, v, rfl, ht⟩ := h
  obtain ⟨g, c, rfl, hg, _⟩ := ht.hr.get (by omega)
  have c0 : w.cell? ⟨rb, 0, none⟩ = some (.slice (some ⟨g, 0, none⟩) rows.length c) := cell_of ht.hp rfl
  have lrb : rb < w.heap.size := World.block_lt_of_cell? w _ c0
  obtain ⟨inf, hi1, hi2, hi3, hi4⟩ := infoInt'
  obtain ⟨w1, hmk1, hown1, hgr1⟩ := run_makeSlice_full (P := Try.prog) w w.heap.size 89 3 inf (.int .i64 0) 1 Try.underlying89 hi1 hi2 hi3 .i64 .i64 rows.length (by omega) (by rw [hi4]; omega) (by unfold maxLen; omega) (Nat.le_refl _)
  obtain ⟨w2, hmk2, hown2, hgr2⟩ := run_makeSlice_full (P := Try.prog) w1 w.heap.size 89 3 inf (.int .i64 0) 1 Try.underlying89 hi1 hi2 hi3 .i64 .i64 rows.length (by omega) (by rw [hi4]; omega) (by unfold maxLen; omega) hgr1.size
  have hz : (madeCells (Value.int .i64 0).cells (rows.length * 1)).toList = ints (List.replicate rows.length 0) := by
    rw [show (Value.int .i64 0).cells = #[.int .i64 0] from rfl, toList_madeCells_one]
    simp [ints]
  rw [hz] at hown1 hown2
  have l1 : w.heap.size < w1.heap.size := by have := hown1.lt w.heap.size rfl; exact this.2
  have hI0 : OccI w w2 w.heap.size w1.heap.size rows.length (List.replicate rows.length 0) (List.replicate rows.length 0) :=
    ⟨hown1.kept hgr2 (by right; intro e; cases e), hown2, Nat.ne_of_lt l1, ((Below.refl _ _).grown hgr1 (Nat.le_refl _) (by intro k hk; cases hk)).grown hgr2 hgr1.size (by intro k hk; cases hk)⟩
  have c1 : w1.cell? ⟨rb, 0, none⟩ = some (.slice (some ⟨g, 0, none⟩) rows.length c) := hgr1.cell c0 (by intro e; cases e)
  have d1 := hI0.cellP (k := i) (x := 0) (by rw [List.getElem?_replicate, if_pos hi])
  have f1 := hI0.frP i
  have hI1 := hI0.setP i 1
  rw [← rowP_start, ← rowN_start rows.length i] at hI1
  have HI := Lib.hid hI1; have HT := Lib.hid ht; have HK := Lib.hid hok
  clear ht hown1 hown2 hgr1 hgr2 hI0 hI1 hi1 hi2 hi3 hi4 hok hz
  go_enter Try.func12, Try.ntmps12
  go_wp2_with fail
  refine H1.out.mono ?_
  rintro e w' ⟨rfl, rfl⟩
  go_wp2_with fail
  refine H2.out.mono ?_
  rintro e w' ⟨rfl, rfl⟩
  go_wp2_with fail
  go_loopw [11] (fun u W => ∃ j : Nat, j ≤ i ∧ (part ≤ i → part + j ≤ i) ∧ (i < part → j = 0) ∧ u = .int .i64 ((i - j : Nat) : Int) ∧ OccI w W w.heap.size w1.heap.size rows.length (rowP (occ rows i j) rows.length) (rowN (occ rows i j) rows.length)) (fun u _ => (intOf u).toNat)
  case atStart => exact ⟨0, Nat.zero_le _, fun h => by omega, fun _ => rfl, by simp, HI.out⟩
  case round =>
    obtain ⟨j, hj, hpj, hj0, rfl, hI⟩ := hrel
    have HJ := Lib.hid hI
    have hbl := hI.bl
    have hlw : w.heap.size < wr.heap.size ∧ w1.heap.size < wr.heap.size := ⟨(hI.op.lt _ rfl).2, (hI.on.lt _ rfl).2⟩
    clear hI
    by_cases hlt : part < i - j
    · obtain ⟨x, hx⟩ : ∃ x, x = i - j := ⟨_, rfl⟩
      rw [← hx] at hlt ⊢
      have hxl : x < rows.length := by omega
      obtain ⟨n, hn⟩ : ∃ n, rows[x]? = some n := ⟨_, List.getElem?_eq_getElem hxl⟩
      have htw := HT.out.below hbl
      obtain ⟨g', c', e, r0, r1, r2, r3, r4⟩ := htw.row hn
      cases e
      have hkk := HK.out.kinds hn
      have hprt := HK.out.parts hn
      have hstep : Hid (occ rows i (j + 1) = stepC n x (occ rows i j)) := by
        show stepC (rowAt rows (i - j)) (i - j) (occ rows i j) = _
        rw [← hx, rowAt_of hn]
      have hin := occ_in rows i j
      generalize hf : occ rows i j = f at *
      have HIN := Lib.hid hin
      have pl := hin.lo1 x; have ph := hin.hi1 x; have ql := hin.lo2 x; have qh := hin.hi2 x
      have lbr : part < x := hlt
      have e1 : ((i - (j + 1) : Nat) : Int) = (x : Int) - 1 := by omega
      have HE1 : Hid (j + 1 ≤ i ∧ (part ≤ i → part + (j + 1) ≤ i) ∧ (i < part → j + 1 = 0)) := by unfold Hid; omega
      have HX := Lib.hid hx
      clear hx hin hf
      obtain ⟨kd, nm, l, r⟩ := n
      simp only at hkk r1 r2 r3 r4 hprt
      have HB0 : Hid (OccB w (wr.alloc (.cells #[.int .i64 kd, .string nm, .int .i64 l, .int .i64 r] 58)) w.heap.size w1.heap.size rows.length (rowP f rows.length) (rowN f rows.length) wr.heap.size ⟨kd, nm, l, r⟩) :=
        ⟨HJ.out.below (below_alloc _ _), boxed_new wr ⟨kd, nm, l, r⟩ 58, by omega, by omega⟩
      clear hlw
      go_wp2_with fail
      generalize wr.alloc (.cells #[.int .i64 kd, .string nm, .int .i64 l, .int .i64 r] 58) = wA at *
      obtain ⟨I0, _, F0, L0⟩ := later wA
      have a0 := L0.cell HB0.out.bx.c0
      have a1 := L0.cell HB0.out.bx.c1
      have a2 := L0.cell HB0.out.bx.c2
      have a3 := L0.cell HB0.out.bx.c3
      have HL := Lib.hid L0
      clear L0 hn htw
      by_cases hk : kd < 3
      · have hS : Hid (occ rows i (j + 1) = f) := by rw [Hid, hstep.out, step_leaf (n := ⟨kd, nm, l, r⟩) hk]
        have HTW : Hid (kd = 1 ∨ kd = 2) := by unfold Hid; omega
        clear hkk hk hstep hprt pl ph ql qh
        refine wp_quietW (W := F0) (by kernel_rfl) (by kernel_rfl) HL.out.drew ?_
        repeat (go_big_quiet_step ((go_at_call 43; refine HL.out.call (two06_no _ kd l r nm HTW.out))))
        refine wpQuiet_nil ?_
        intro w5 hw5
        obtain ⟨i5, hw5⟩ := hw5
        subst hw5
        have HF := Lib.hid (HB0.out.below (HL.out.bel i5)).o
        clear HL HB0 a0 a1 a2 a3
        generalize F0 i5 = w5 at *
        go_wp2_with fail
        refine ⟨⟨j + 1, HE1.out.1, HE1.out.2.1, HE1.out.2.2, by rw [e1], ?_⟩, by simp [intOf]; omega⟩
        rw [hS.out]
        exact HF.out
      · have HTW : Hid (kd ≠ 1 ∧ kd ≠ 2) := by unfold Hid; omega
        have dP := HL.out.cell (HB0.out.o.cellP (rowP_at f hxl))
        have dN := HL.out.cell (HB0.out.o.cellN (rowN_at f hxl))
        obtain ⟨hl, hr⟩ := hprt (by omega)
        have hxi : (x : Int) < (rows.length : Int) := by omega
        have HKD : Hid (3 ≤ kd ∧ kd ≤ 5) := by unfold Hid; omega
        clear hkk hk hprt
        obtain ⟨l, rfl⟩ := Int.eq_ofNat_of_zero_le hl.1
        obtain ⟨r, rfl⟩ := Int.eq_ofNat_of_zero_le hr.1
        have hll : l < rows.length := by omega
        have hrl : r < rows.length := by omega
        have hl2 : (l : Int) < (rows.length : Int) := by omega
        have hr2 : (r : Int) < (rows.length : Int) := by omega
        clear hl hr
        unfold MC at ph qh
        have HP : Hid (0 ≤ (f x).1 ∧ (f x).1 ≤ MC) := ⟨pl, by unfold MC; exact ph⟩
        have HQ : Hid (0 ≤ (f x).2 ∧ (f x).2 ≤ MC) := ⟨ql, by unfold MC; exact qh⟩
        by_cases hz : (f x).1 + (f x).2 = 0
        · have hS : Hid (occ rows i (j + 1) = f) := by rw [Hid, hstep.out, step_zero HIN.out (by unfold tot; exact hz)]
          have gz : ((f x).1 + (f x).2 == 0) = true := by simpa using hz
          clear hstep hz
          refine wp_quietW (W := F0) (by kernel_rfl) (by kernel_rfl) HL.out.drew ?_
          repeat (go_big_quiet_step ((go_at_call 43; refine HL.out.call (two06_yes _ kd l r nm HTW.out))))
          refine wpQuiet_nil ?_
          intro w5 hw5
          obtain ⟨i5, hw5⟩ := hw5
          subst hw5
          have HF := Lib.hid (HB0.out.below (HL.out.bel i5)).o
          clear HL HB0 a0 a1 a2 a3 dP dN
          generalize F0 i5 = w5 at *
          go_wp2_with fail
          refine ⟨⟨j + 1, HE1.out.1, HE1.out.2.1, HE1.out.2.2, by rw [e1], ?_⟩, by simp [intOf]; omega⟩
          rw [hS.out]
          exact HF.out
        · have gz : ((f x).1 + (f x).2 == 0) = false := by simpa using hz
          clear hz
          refine wp_quietW (W := F0) (by kernel_rfl) (by kernel_rfl) HL.out.drew ?_
          repeat (go_big_quiet_step ((go_at_call 43; refine HL.out.call (two06_yes _ kd l r nm HTW.out))))
          refine wpQuiet_nil ?_
          intro w5 hw5
          obtain ⟨i5, hw5⟩ := hw5
          subst hw5
          have HB5 := Lib.hid (HB0.out.below (HL.out.bel i5))
          clear HL HB0 a0 a1 a2 a3 dP dN
          generalize F0 i5 = w5 at *
          go_wp2_with fail
          have dP := HB5.out.o.cellP (rowP_at f hxl)
          have dN := HB5.out.o.cellN (rowN_at f hxl)
          have b0 := HB5.out.bx.c0
          go_quiet (fail)
          clear dP dN
          have HB6 := Lib.hid (HB5.out.below (below_drewN w5 nq))
          have b0 : (w5.drewN nq).cell? ⟨wr.heap.size, 0, none⟩ = some (.int .i64 kd) := HB6.out.bx.c0
          generalize w5.drewN nq = w6 at *
          by_cases h5 : kd = 5
          · have g5 : (kd == 5) = true := by simpa using h5
            have hS : Hid (occ rows i (j + 1) = addC (addC f l (f x).2 (f x).1) r (f x).1 (f x).2) := by rw [Hid, hstep.out, occ_imp (n := ⟨kd, nm, l, r⟩) h5]; simp
            have HIN1 : Hid (CIn (addC f l (f x).2 (f x).1)) := HIN.out.add l HQ.out.1 HP.out.1
            clear hstep h5
            go_wp2_with fail
            obtain ⟨I1, _, F1, L1⟩ := later w6
            have a1 := L1.cell HB6.out.bx.c2
            have a2 := L1.cell (HB6.out.o.cellP (rowP_at (f) hll))
            have a3 := L1.frozen (HB6.out.o.cellP (rowP_at (f) hll)) (HB6.out.o.frP l)
            have HL := Lib.hid L1
            clear L1
            refine wp_tailW (W := F1) 11 (by kernel_rfl) (by kernel_rfl) HL.out.drew ?_
            simp only [List.take_succ_cons, List.take_zero, List.drop_succ_cons, List.drop_zero]
            repeat (go_big_quiet_step ((go_at_call 44; refine Later.call_same (sum06_any ((f) l).1 ((f x).2) ⟨HIN.out.lo1 _, HIN.out.hi1 _⟩ HQ.out _))))
            refine wpQuiet_nil ?_
            intro w6 hw6
            obtain ⟨i6, hw6⟩ := hw6
            subst hw6
            go_wp2_with fail
            have HB7 := Lib.hid ((HB6.out.below (HL.out.bel i6)).addP l ((f x).2) ((f x).1))
            generalize (F1 i6).setCell ⟨w.heap.size, l, none⟩ (.int .i64 (capI (((f) l).1 + ((f x).2)))) = w7 at *
            clear a1 a2 a3 HL
            obtain ⟨I1, _, F1, L1⟩ := later w7
            have a1 := L1.cell HB7.out.bx.c2
            have a2 := L1.cell (HB7.out.o.cellN (rowN_at (f) hll))
            have a3 := L1.frozen (HB7.out.o.cellN (rowN_at (f) hll)) (HB7.out.o.frN l)
            have HL := Lib.hid L1
            clear L1
            refine wp_tailW (W := F1) 11 (by kernel_rfl) (by kernel_rfl) HL.out.drew ?_
            simp only [List.take_succ_cons, List.take_zero, List.drop_succ_cons, List.drop_zero]
            repeat (go_big_quiet_step ((go_at_call 44; refine Later.call_same (sum06_any ((f) l).2 ((f x).1) ⟨HIN.out.lo2 _, HIN.out.hi2 _⟩ HP.out _))))
            refine wpQuiet_nil ?_
            intro w6 hw6
            obtain ⟨i6, hw6⟩ := hw6
            subst hw6
            go_wp2_with fail
            have HB8 := Lib.hid ((HB7.out.below (HL.out.bel i6)).addN l ((f x).2) ((f x).1))
            generalize (F1 i6).setCell ⟨w1.heap.size, l, none⟩ (.int .i64 (capI (((f) l).2 + ((f x).1)))) = w8 at *
            clear a1 a2 a3 HL
            obtain ⟨I1, _, F1, L1⟩ := later w8
            have a1 := L1.cell HB8.out.bx.c3
            have a2 := L1.cell (HB8.out.o.cellP (rowP_at (addC f l (f x).2 (f x).1) hrl))
            have a3 := L1.frozen (HB8.out.o.cellP (rowP_at (addC f l (f x).2 (f x).1) hrl)) (HB8.out.o.frP r)
            have HL := Lib.hid L1
            clear L1
            refine wp_tailW (W := F1) 11 (by kernel_rfl) (by kernel_rfl) HL.out.drew ?_
            simp only [List.take_succ_cons, List.take_zero, List.drop_succ_cons, List.drop_zero]
            repeat (go_big_quiet_step ((go_at_call 44; refine Later.call_same (sum06_any ((addC f l (f x).2 (f x).1) r).1 ((f x).1) ⟨HIN1.out.lo1 _, HIN1.out.hi1 _⟩ HP.out _))))
            refine wpQuiet_nil ?_
            intro w6 hw6
            obtain ⟨i6, hw6⟩ := hw6
            subst hw6
            go_wp2_with fail
            have HB9 := Lib.hid ((HB8.out.below (HL.out.bel i6)).addP r ((f x).1) ((f x).2))
            generalize (F1 i6).setCell ⟨w.heap.size, r, none⟩ (.int .i64 (capI (((addC f l (f x).2 (f x).1) r).1 + ((f x).1)))) = w9 at *
            clear a1 a2 a3 HL
            obtain ⟨I1, _, F1, L1⟩ := later w9
            have a1 := L1.cell HB9.out.bx.c3
            have a2 := L1.cell (HB9.out.o.cellN (rowN_at (addC f l (f x).2 (f x).1) hrl))
            have a3 := L1.frozen (HB9.out.o.cellN (rowN_at (addC f l (f x).2 (f x).1) hrl)) (HB9.out.o.frN r)
            have HL := Lib.hid L1
            clear L1
            refine wp_tailW (W := F1) 11 (by kernel_rfl) (by kernel_rfl) HL.out.drew ?_
            simp only [List.take_succ_cons, List.take_zero, List.drop_succ_cons, List.drop_zero]
            repeat (go_big_quiet_step ((go_at_call 44; refine Later.call_same (sum06_any ((addC f l (f x).2 (f x).1) r).2 ((f x).2) ⟨HIN1.out.lo2 _, HIN1.out.hi2 _⟩ HQ.out _))))
            refine wpQuiet_nil ?_
            intro w6 hw6
            obtain ⟨i6, hw6⟩ := hw6
            subst hw6
            go_wp2_with fail
            have HB10 := Lib.hid ((HB9.out.below (HL.out.bel i6)).addN r ((f x).1) ((f x).2))
            generalize (F1 i6).setCell ⟨w1.heap.size, r, none⟩ (.int .i64 (capI (((addC f l (f x).2 (f x).1) r).2 + ((f x).2)))) = w10 at *
            clear a1 a2 a3 HL
            refine ⟨⟨j + 1, HE1.out.1, HE1.out.2.1, HE1.out.2.2, by rw [e1], ?_⟩, by simp [intOf]; omega⟩
            rw [hS.out]
            exact HB10.out.o
          · have g5 : (kd == 5) = false := by simpa using h5
            have hS : Hid (occ rows i (j + 1) = addC (addC f l (f x).1 (f x).2) r (f x).1 (f x).2) := by rw [Hid, hstep.out, occ_two (n := ⟨kd, nm, l, r⟩) HKD.out.1 h5]; simp
            have HIN1 : Hid (CIn (addC f l (f x).1 (f x).2)) := HIN.out.add l HP.out.1 HQ.out.1
            clear hstep h5
            go_wp2_with fail
            obtain ⟨I1, _, F1, L1⟩ := later w6
            have a1 := L1.cell HB6.out.bx.c2
            have a2 := L1.cell (HB6.out.o.cellP (rowP_at (f) hll))
            have a3 := L1.frozen (HB6.out.o.cellP (rowP_at (f) hll)) (HB6.out.o.frP l)
            have HL := Lib.hid L1
            clear L1
            refine wp_tailW (W := F1) 11 (by kernel_rfl) (by kernel_rfl) HL.out.drew ?_
            simp only [List.take_succ_cons, List.take_zero, List.drop_succ_cons, List.drop_zero]
            repeat (go_big_quiet_step ((go_at_call 44; refine Later.call_same (sum06_any ((f) l).1 ((f x).1) ⟨HIN.out.lo1 _, HIN.out.hi1 _⟩ HP.out _))))
            refine wpQuiet_nil ?_
            intro w6 hw6
            obtain ⟨i6, hw6⟩ := hw6
            subst hw6
            go_wp2_with fail
            have HB7 := Lib.hid ((HB6.out.below (HL.out.bel i6)).addP l ((f x).1) ((f x).2))
            generalize (F1 i6).setCell ⟨w.heap.size, l, none⟩ (.int .i64 (capI (((f) l).1 + ((f x).1)))) = w7 at *
            clear a1 a2 a3 HL
            obtain ⟨I1, _, F1, L1⟩ := later w7
            have a1 := L1.cell HB7.out.bx.c2
            have a2 := L1.cell (HB7.out.o.cellN (rowN_at (f) hll))
            have a3 := L1.frozen (HB7.out.o.cellN (rowN_at (f) hll)) (HB7.out.o.frN l)
            have HL := Lib.hid L1
            clear L1
            refine wp_tailW (W := F1) 11 (by kernel_rfl) (by kernel_rfl) HL.out.drew ?_
            simp only [List.take_succ_cons, List.take_zero, List.drop_succ_cons, List.drop_zero]
            repeat (go_big_quiet_step ((go_at_call 44; refine Later.call_same (sum06_any ((f) l).2 ((f x).2) ⟨HIN.out.lo2 _, HIN.out.hi2 _⟩ HQ.out _))))
            refine wpQuiet_nil ?_
            intro w6 hw6
            obtain ⟨i6, hw6⟩ := hw6
            subst hw6
            go_wp2_with fail
            have HB8 := Lib.hid ((HB7.out.below (HL.out.bel i6)).addN l ((f x).1) ((f x).2))
            generalize (F1 i6).setCell ⟨w1.heap.size, l, none⟩ (.int .i64 (capI (((f) l).2 + ((f x).2)))) = w8 at *
            clear a1 a2 a3 HL
            obtain ⟨I1, _, F1, L1⟩ := later w8
            have a1 := L1.cell HB8.out.bx.c3
            have a2 := L1.cell (HB8.out.o.cellP (rowP_at (addC f l (f x).1 (f x).2) hrl))
            have a3 := L1.frozen (HB8.out.o.cellP (rowP_at (addC f l (f x).1 (f x).2) hrl)) (HB8.out.o.frP r)
            have HL := Lib.hid L1
            clear L1
            refine wp_tailW (W := F1) 11 (by kernel_rfl) (by kernel_rfl) HL.out.drew ?_
            simp only [List.take_succ_cons, List.take_zero, List.drop_succ_cons, List.drop_zero]
            repeat (go_big_quiet_step ((go_at_call 44; refine Later.call_same (sum06_any ((addC f l (f x).1 (f x).2) r).1 ((f x).1) ⟨HIN1.out.lo1 _, HIN1.out.hi1 _⟩ HP.out _))))
            refine wpQuiet_nil ?_
            intro w6 hw6
            obtain ⟨i6, hw6⟩ := hw6
            subst hw6
            go_wp2_with fail
            have HB9 := Lib.hid ((HB8.out.below (HL.out.bel i6)).addP r ((f x).1) ((f x).2))
            generalize (F1 i6).setCell ⟨w.heap.size, r, none⟩ (.int .i64 (capI (((addC f l (f x).1 (f x).2) r).1 + ((f x).1)))) = w9 at *
            clear a1 a2 a3 HL
            obtain ⟨I1, _, F1, L1⟩ := later w9
            have a1 := L1.cell HB9.out.bx.c3
            have a2 := L1.cell (HB9.out.o.cellN (rowN_at (addC f l (f x).1 (f x).2) hrl))
            have a3 := L1.frozen (HB9.out.o.cellN (rowN_at (addC f l (f x).1 (f x).2) hrl)) (HB9.out.o.frN r)
            have HL := Lib.hid L1
            clear L1
            refine wp_tailW (W := F1) 11 (by kernel_rfl) (by kernel_rfl) HL.out.drew ?_
            simp only [List.take_succ_cons, List.take_zero, List.drop_succ_cons, List.drop_zero]
            repeat (go_big_quiet_step ((go_at_call 44; refine Later.call_same (sum06_any ((addC f l (f x).1 (f x).2) r).2 ((f x).2) ⟨HIN1.out.lo2 _, HIN1.out.hi2 _⟩ HQ.out _))))
            refine wpQuiet_nil ?_
            intro w6 hw6
            obtain ⟨i6, hw6⟩ := hw6
            subst hw6
            go_wp2_with fail
            have HB10 := Lib.hid ((HB9.out.below (HL.out.bel i6)).addN r ((f x).1) ((f x).2))
            generalize (F1 i6).setCell ⟨w1.heap.size, r, none⟩ (.int .i64 (capI (((addC f l (f x).1 (f x).2) r).2 + ((f x).2)))) = w10 at *
            clear a1 a2 a3 HL
            refine ⟨⟨j + 1, HE1.out.1, HE1.out.2.1, HE1.out.2.2, by rw [e1], ?_⟩, by simp [intOf]; omega⟩
            rw [hS.out]
            exact HB10.out.o
    · have HBL := Lib.hid hbl
      by_cases hpi : part ≤ i
      · have hji : i - j = part := by omega
        have HOC : Hid (occ rows i j part = occs rows i part) := by
          unfold Hid occs
          rw [occ_stays HK.out hi hpi (k := j) (by omega) (by omega), occ_stays HK.out hi hpi (k := i + 1) (by omega) (by omega)]
        have dP := HJ.out.cellP (rowP_at (occ rows i j) hp)
        have dN := HJ.out.cellN (rowN_at (occ rows i j) hp)
        rw [HOC.out] at dP dN
        have hpi2 : (part : Int) < (rows.length : Int) := by omega
        rw [hji]
        clear hj hpj hj0 hji hbl
        go_wp2_with fail
        go_quiet (fail)
        go_wp2_with fail
        go_ret3
        exact ⟨rfl, below_trans HBL.out (below_drewN _ _)⟩
      · obtain rfl := hj0 (by omega)
        have HOC : Hid (occs rows i part = (0, 0)) := occs_zero HK.out hi (fun hr => hpi (hr.le HK.out))
        have hpi2 : (i : Int) < (part : Int) := by omega
        have e0 : i - 0 = i := rfl
        rw [e0]
        clear hj hpj hj0 hpi hbl
        go_wp2_with fail
        go_ret3
        exact ⟨by simp [HOC.out], HBL.out⟩
end Go.Dk
