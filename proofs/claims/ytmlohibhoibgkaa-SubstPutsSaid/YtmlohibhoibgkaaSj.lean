/- anew at an image. Written by wip/genanew.py of wip/anew.tmpl. -/
import Derived.Test.YtmlohibhoibgkaaSh
namespace Go.Dk
open Go.RowKit Go.Maps Go.MapKept
open Go.Proofs hiding intOf

set_option maxRecDepth 100000 in
set_option maxHeartbeats 4000000 in
theorem anewPut_yes (E : EnvT) (hE : EnvOk E) (of : OfF) (hgr : Grows of) (hnn : ∀ rows k n l r, 0 ≤ l → 0 ≤ r → 0 ≤ (of rows k n l r).id) (ow : Own) (w : World) (t : Value) (rows : List ND) (h : Tab 1 ow w t rows) (p1 p2 : Value)
    (hC : ∀ ow w rows (k : Nat) (n : ND) (l r : Int), Tab 1 ow w t rows → E ow w → n.name.size ≤ maxLen → (1 ≤ n.kind ∧ n.kind ≤ 5) → 0 ≤ l → 0 ≤ r → Calls Try.prog 36 #[.int .i64 (k : Int), .agg #[.int .i64 n.kind, .string n.name, .int .i64 n.l, .int .i64 n.r], .int .i64 l, .int .i64 r, p1, p2] w (PutPost 1 ow w t (of rows k n l r)))
    (hEw : E ow w) (id : Nat) (hid : id < rows.length) :
    Calls Try.prog 35 #[t, .int .i64 (id : Int), .func (.func 36) #[] #[p1, p2]] w (PutPost 1 ow w t (anewP of rows id)) := by
  have hok := h.ok
  have hle := hok.le
  have H := Lib.hid h
  have HK := Lib.hid hok
  have HG := Lib.hid hgr
  have HN := Lib.hid hnn
  have HC := Lib.hid hC
  have HE := Lib.hid hE
  have HEW := Lib.hid hEw
  clear h hgr hnn hC hE hEw hok
  have hmm := @run_makeMap Try.prog
  go_enter Try.func35, Try.ntmps35
  go_wp2_with (first
    | (go_at_call 21; refine (len_any 1 ow _ _ rows H.out).mono ?_; rintro e w' ⟨rfl, rfl⟩)
    | (go_at_call 58; refine (below_yes 1 ow _ _ _ H.out id hid).mono ?_; rintro e w2 ⟨v2, rfl, hown2, hb2⟩; have HI := Lib.hid (AnW.start (of := of) HE.out H.out HEW.out hb2 hown2); obtain ⟨a2, c2, hv2⟩ := own_slice hown2; subst hv2; clear hown2 hb2))
  clear hmm
  have hlb := below_le rows id
  go_loopw [10, 32] (fun e i W => e = .int .i64 0 ∧ ∃ (j : Nat) (ow' : Own) (rowsj : List ND) (img : Nat → Int), j ≤ (below rows id).length ∧ i = .int .i64 (j : Int) ∧ AnW E of ow w t rows id w2.heap.size (.slice a2 (below rows id).length c2) j ow' W rowsj img) (fun _ i _ => (below rows id).length - (intOf i).toNat)
  case atStart => exact ⟨rfl, 0, _, _, _, Nat.zero_le _, rfl, HI.out⟩
  case round =>
    obtain ⟨rfl, j, ow', rowsj, img, hj, rfl, hI⟩ := hrel
    have HJ := Lib.hid hI
    by_cases hlt : j < (below rows id).length
    · obtain ⟨b, o, c1, x', he, hc1, hxk'⟩ := ints_at (rd_own hI.own) hlt
      cases he
      obtain ⟨x, hx⟩ : ∃ x, (below rows id)[j]? = some x := ⟨_, List.getElem?_eq_getElem hlt⟩
      obtain rfl : x' = (x : Int) := by
        have : (natInts (below rows id))[j]? = some (x : Int) := by simp [natInts, hx]
        rw [this] at hxk'; exact (Option.some.inj hxk').symm
      have hxi : x ≤ id := ((mem_below HK.out).1 (List.mem_of_getElem? hx)).le HK.out
      have hpl := prefix_length hI.pre
      have hrow := rowAt_get (rows := rowsj) (i := x) (by omega)
      have hp0 : pAt of rowsj x img = of rowsj x (rowAt rowsj x) (if 3 ≤ (rowAt rowsj x).kind then img (rowAt rowsj x).l.toNat else 0) (if 3 ≤ (rowAt rowsj x).kind then img (rowAt rowsj x).r.toNat else 0) := rfl
      generalize rowAt rowsj x = n at hrow hp0
      have hjk := hI.tab.ok
      have hjl := hjk.le
      have hfn := fits_le (hjk.fit _ _ hrow)
      obtain ⟨kd, nm, l', r'⟩ := n
      simp only at hfn hp0
      obtain ⟨l, rfl⟩ := Int.eq_ofNat_of_zero_le hfn.2.2.1.1
      obtain ⟨r, rfl⟩ := Int.eq_ofNat_of_zero_le hfn.2.2.2.1
      simp only [Int.toNat_natCast] at hp0
      have HX := Lib.hid hx
      have HRX := Lib.hid hrow
      have HLR : Hid (l ≤ 9223372036854775807 ∧ r ≤ 9223372036854775807 ∧ x ≤ 9223372036854775807) := by unfold Hid; omega
      have HNM : Hid (nm.size ≤ maxLen) := by unfold Hid maxLen; omega
      have HKN : Hid (1 ≤ kd ∧ kd ≤ 5) := hfn.2.1
      have HGT := Lib.hid hI.get
      have n1 := hI.nn l; have n2 := hI.nn r
      clear hI hxk' hx hrow hfn hjk
      by_cases h3 : 3 ≤ kd
      · as_aux_lemma =>
        rw [if_pos h3, if_pos h3] at hp0
        have g3 : (decide (3 ≤ kd)) = true := by simpa using h3
        have HNN : Hid (0 ≤ img l ∧ 0 ≤ img r) := ⟨n1, n2⟩
        have HID : Hid (0 ≤ (of rowsj x ⟨kd, nm, l, r⟩ (img l) (img r)).id) := HN.out _ _ _ _ _ n1 n2
        have HGR : Hid (rowsj <+: (of rowsj x ⟨kd, nm, l, r⟩ (img l) (img r)).rows) := HG.out _ _ _ _ _
        have HCC : Hid (∀ W, Tab 1 ow' W t rowsj → E ow' W → Calls Try.prog 36 #[.int .i64 (x : Int), .agg #[.int .i64 kd, .string nm, .int .i64 (l : Int), .int .i64 (r : Int)], .int .i64 (img l), .int .i64 (img r), p1, p2] W (PutPost 1 ow' W t (of rowsj x ⟨kd, nm, l, r⟩ (img l) (img r)))) := fun W a b => HC.out ow' W rowsj x ⟨kd, nm, l, r⟩ _ _ a b HNM.out HKN.out n1 n2
        have g1 := HGT.out l; have g2 := HGT.out r
        have HP0 := Lib.hid hp0
        clear hp0 n1 n2
        generalize of rowsj x ⟨kd, nm, l, r⟩ (img l) (img r) = p at *
        generalize hil : img l = il at *
        generalize hir : img r = ir at *
        clear hil hir
        go_wp2_with (go_at_call 15; refine (node_yes 1 ow' _ _ _ HJ.out.tab _ _ HRX.out).mono ?_; rintro e w4 ⟨rfl, hb4⟩; have HJ4 := Lib.hid (HJ.out.later HE.out (below_trans hb4 (below_alloc w4 (.cells #[.int .i64 kd, .string nm, .int .i64 (l : Int), .int .i64 (r : Int)] 36)))); clear hb4)
        have HBX : Hid (Boxed (w4.alloc (.cells #[.int .i64 kd, .string nm, .int .i64 (l : Int), .int .i64 (r : Int)] 36)) w4.heap.size ⟨kd, nm, l, r⟩) := boxed_new w4 ⟨kd, nm, l, r⟩ _
        generalize w4.alloc (.cells #[.int .i64 kd, .string nm, .int .i64 (l : Int), .int .i64 (r : Int)] 36) = w5 at *
        have q0 := HBX.out.c0; have q2 := HBX.out.c2; have q3 := HBX.out.c3
        have hl1 : ∀ nq, (Instr.lookup 107 (.map (some w2.heap.size)) (.int .i64 (l : Int)) false).run Try.prog (w5.drewN nq) = .ok (.int .i64 il) (w5.drewN nq) := fun nq => by
          have := (HJ4.out.mp.below (below_drewN w5 nq)).look_int l HLR.out.1
          rw [g1] at this; exact this
        have hl2 : ∀ nq, (Instr.lookup 107 (.map (some w2.heap.size)) (.int .i64 (r : Int)) false).run Try.prog (w5.drewN nq) = .ok (.int .i64 ir) (w5.drewN nq) := fun nq => by
          have := (HJ4.out.mp.below (below_drewN w5 nq)).look_int r HLR.out.2.1
          rw [g2] at this; exact this
        have HGG : Hid ((imgF img ((below rows id).take j) l).getD 0 = il) := g1
        clear g1 g2
        go_wp2_with fail
        go_quiet (fail)
        have HJ5 := Lib.hid (HJ4.out.later HE.out (below_drewN w5 nq))
        obtain ⟨q0, q1, q2, q3⟩ := HBX.out.below (below_drewN w5 nq)
        simp only at q0 q1 q2 q3
        clear hl1 hl2 HBX HJ4
        generalize w5.drewN nq = w6 at *
        by_cases hz : p.err = 0
        · as_aux_lemma =>
          have gz : (p.err != 0) = false := by simp [hz]
          have HZ := Lib.hid hz
          clear hz
          go_wp2_with (first
            | (go_at_call 36; refine (HCC.out _ HJ5.out.tab HJ5.out.env).mono ?_; rintro e w7 ⟨rfl, ow7, hk7, ht7⟩; have HK7 := Lib.hid hk7; have HT7 := Lib.hid ht7; have HM7 := Lib.hid (HJ5.out.mp.kept hk7 (by rw [HJ5.out.cm]; decide)); clear hk7 ht7)
            | (at_mapUpdate; refine wp_put HM7.out lawInt natV_inj rfl (.tmp 54) (.tmp 55) _ 107 3 rfl Try.underlying107 rfl x rfl p.id rfl (keyNat x HLR.out.2.2) ?_; intro w8 hm8 ho8; have HJ8 := Lib.hid (HJ5.out.next HE.out HX.out HP0.out HZ.out HID.out HGR.out HK7.out HT7.out hm8 ho8); clear hm8 ho8))
          refine ⟨⟨by rw [HZ.out], j + 1, _, _, _, by omega, by go_num, HJ8.out⟩, by simp [intOf]; omega⟩
        · as_aux_lemma =>
          have gz : (p.err != 0) = true := by simp [hz]
          have HZ := Lib.hid hz
          have HST : Hid (anewP of rows id = ⟨rows, 0, p.err⟩) := by
            rw [Hid, anewP_stop HX.out HJ5.out.st (by rw [HP0.out]; exact HZ.out), HP0.out]
          clear hz
          go_wp2_with (first
            | (go_at_call 36; refine (HCC.out _ HJ5.out.tab HJ5.out.env).mono ?_; rintro e w7 ⟨rfl, ow7, hk7, ht7⟩; have HK7 := Lib.hid hk7; have HT7 := Lib.hid ht7; have HM7 := Lib.hid (HJ5.out.mp.kept hk7 (by rw [HJ5.out.cm]; decide)); clear hk7 ht7)
            | (go_at_call 59; refine (cut_any 1 ow7 _ t p.rows HF8.out.2 (rows.length : Int)).mono ?_; rintro e w9 ⟨rfl, ow9, hk9, ht9⟩; have HF9 : Hid (Kept 1 ow w ow9 w9 ∧ Tab 1 ow9 w9 t rows) := ⟨HF8.out.1.trans hk9, by unfold cutP at ht9; rw [if_pos ⟨by omega, by have := prefix_length HJ5.out.pre; have := prefix_length HGR.out; omega⟩] at ht9; simp only [Int.toNat_natCast] at ht9; rw [take_of_prefix (HJ5.out.pre.trans HGR.out)] at ht9; exact ht9⟩; clear hk9 ht9)
            | (at_mapUpdate; refine wp_put HM7.out lawInt natV_inj rfl (.tmp 54) (.tmp 55) _ 107 3 rfl Try.underlying107 rfl x rfl p.id rfl (keyNat x HLR.out.2.2) ?_; intro w8 hm8 ho8; have HF8 := Lib.hid (HJ5.out.fail HK7.out HT7.out ho8); clear hm8 ho8))
          go_ret2
          rw [HST.out]
          exact ⟨rfl, _, HF9.out.1, HF9.out.2⟩
      · as_aux_lemma =>
        rw [if_neg h3, if_neg h3] at hp0
        have g3 : (decide (3 ≤ kd)) = false := by simpa using h3
        have z0 : (0 : Int) ≤ 0 := Int.le_refl _
        have HID : Hid (0 ≤ (of rowsj x ⟨kd, nm, l, r⟩ 0 0).id) := HN.out _ _ _ _ _ z0 z0
        have HGR : Hid (rowsj <+: (of rowsj x ⟨kd, nm, l, r⟩ 0 0).rows) := HG.out _ _ _ _ _
        have HCC : Hid (∀ W, Tab 1 ow' W t rowsj → E ow' W → Calls Try.prog 36 #[.int .i64 (x : Int), .agg #[.int .i64 kd, .string nm, .int .i64 (l : Int), .int .i64 (r : Int)], .int .i64 0, .int .i64 0, p1, p2] W (PutPost 1 ow' W t (of rowsj x ⟨kd, nm, l, r⟩ 0 0))) := fun W a b => HC.out ow' W rowsj x ⟨kd, nm, l, r⟩ _ _ a b HNM.out HKN.out z0 z0
        have HP0 := Lib.hid hp0
        clear hp0 n1 n2 z0 h3
        generalize of rowsj x ⟨kd, nm, l, r⟩ 0 0 = p at *
        by_cases hz : p.err = 0
        · as_aux_lemma =>
          have gz : (p.err != 0) = false := by simp [hz]
          have HZ := Lib.hid hz
          clear hz
          go_wp2_with (first
            | (go_at_call 15; refine (node_yes 1 ow' _ _ _ HJ.out.tab _ _ HRX.out).mono ?_; rintro e w4 ⟨rfl, hb4⟩; have HJ5 := Lib.hid (HJ.out.later HE.out (below_trans hb4 (below_alloc w4 (.cells #[.int .i64 kd, .string nm, .int .i64 (l : Int), .int .i64 (r : Int)] 36)))); clear hb4)
            | (go_at_call 36; refine (HCC.out _ HJ5.out.tab HJ5.out.env).mono ?_; rintro e w7 ⟨rfl, ow7, hk7, ht7⟩; have HK7 := Lib.hid hk7; have HT7 := Lib.hid ht7; have HM7 := Lib.hid (HJ5.out.mp.kept hk7 (by rw [HJ5.out.cm]; decide)); clear hk7 ht7)
            | (at_mapUpdate; refine wp_put HM7.out lawInt natV_inj rfl (.tmp 54) (.tmp 55) _ 107 3 rfl Try.underlying107 rfl x rfl p.id rfl (keyNat x HLR.out.2.2) ?_; intro w8 hm8 ho8; have HJ8 := Lib.hid (HJ5.out.next HE.out HX.out HP0.out HZ.out HID.out HGR.out HK7.out HT7.out hm8 ho8); clear hm8 ho8))
          refine ⟨⟨by rw [HZ.out], j + 1, _, _, _, by omega, by go_num, HJ8.out⟩, by simp [intOf]; omega⟩
        · as_aux_lemma =>
          have gz : (p.err != 0) = true := by simp [hz]
          have HZ := Lib.hid hz
          have HST : Hid (anewP of rows id = ⟨rows, 0, p.err⟩) := by
            rw [Hid, anewP_stop HX.out HJ.out.st (by rw [HP0.out]; exact HZ.out), HP0.out]
          clear hz
          go_wp2_with (first
            | (go_at_call 15; refine (node_yes 1 ow' _ _ _ HJ.out.tab _ _ HRX.out).mono ?_; rintro e w4 ⟨rfl, hb4⟩; have HJ5 := Lib.hid (HJ.out.later HE.out (below_trans hb4 (below_alloc w4 (.cells #[.int .i64 kd, .string nm, .int .i64 (l : Int), .int .i64 (r : Int)] 36)))); clear hb4)
            | (go_at_call 36; refine (HCC.out _ HJ5.out.tab HJ5.out.env).mono ?_; rintro e w7 ⟨rfl, ow7, hk7, ht7⟩; have HK7 := Lib.hid hk7; have HT7 := Lib.hid ht7; have HM7 := Lib.hid (HJ5.out.mp.kept hk7 (by rw [HJ5.out.cm]; decide)); clear hk7 ht7)
            | (go_at_call 59; refine (cut_any 1 ow7 _ t p.rows HF8.out.2 (rows.length : Int)).mono ?_; rintro e w9 ⟨rfl, ow9, hk9, ht9⟩; have HF9 : Hid (Kept 1 ow w ow9 w9 ∧ Tab 1 ow9 w9 t rows) := ⟨HF8.out.1.trans hk9, by unfold cutP at ht9; rw [if_pos ⟨by omega, by have := prefix_length HJ5.out.pre; have := prefix_length HGR.out; omega⟩] at ht9; simp only [Int.toNat_natCast] at ht9; rw [take_of_prefix (HJ5.out.pre.trans HGR.out)] at ht9; exact ht9⟩; clear hk9 ht9)
            | (at_mapUpdate; refine wp_put HM7.out lawInt natV_inj rfl (.tmp 54) (.tmp 55) _ 107 3 rfl Try.underlying107 rfl x rfl p.id rfl (keyNat x HLR.out.2.2) ?_; intro w8 hm8 ho8; have HF8 := Lib.hid (HJ5.out.fail HK7.out HT7.out ho8); clear hm8 ho8))
          go_ret2
          rw [HST.out]
          exact ⟨rfl, _, HF9.out.1, HF9.out.2⟩
    · obtain rfl : j = (below rows id).length := by omega
      have hst := hI.st
      have hg := hI.get id
      have hm := hI.mp
      rw [List.take_length] at hst hg hm
      have HST : Hid (anewP of rows id = ⟨rowsj, img id, 0⟩) := anewP_end hst
      have hl1 := hm.look_int id (by omega)
      rw [hg] at hl1
      have HKP := Lib.hid hI.kp
      have HTB := Lib.hid hI.tab
      clear hI hst hg hm
      go_wp2_with fail
      go_ret2
      rw [HST.out]
      exact ⟨rfl, _, HKP.out, HTB.out⟩

end Go.Dk

