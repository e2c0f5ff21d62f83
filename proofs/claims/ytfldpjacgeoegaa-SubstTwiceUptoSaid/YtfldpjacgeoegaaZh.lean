/- SubstTwice: the walk. -/
import Derived.Test.YtfldpjacgeoegaaZg
namespace Go.Dk
open Go.RowKit Go.Maps Go.MapKept
open Go.Proofs hiding intOf

def TruePost (w : World) (e : Ending) (w' : World) : Prop := e = .returned (.bool true) ∧ Below w.heap.size w w'

set_option maxRecDepth 100000 in
set_option maxHeartbeats 1000000 in
theorem substTwice_any (w : World) (v : Value) (rows : List ND) (hn : ∀ n ∈ rows, n.name.size ≤ maxLen) (hr : Rd w v rows.length 4 (nodeCells rows)) (hm : rows.length ≤ maxLen) (hl : rows.length * 40 ≤ 140737488355328) (id : Int)
    (v1 : Value) (l1 : List HY) (hn1 : ∀ x ∈ l1, x.name.size ≤ maxLen) (hv1 : Rd w v1 l1.length 2 (hyCells l1)) (hl1 : l1.length * 24 ≤ 140737488355328)
    (v2 : Value) (l2 : List HY) (hn2 : ∀ x ∈ l2, x.name.size ≤ maxLen) (hv2 : Rd w v2 l2.length 2 (hyCells l2)) (hl2 : l2.length * 24 ≤ 140737488355328) (hl12 : (l1.length + l2.length) * 24 ≤ 140737488355328) :
    Calls Try.prog 6 #[v, .int .i64 id, v1, v2] w (TruePost w) := by
  have HBo := Lib.hid (both_any w v rows hn hr hm hl)
  have HV1 := Lib.hid hv1; have HV2 := Lib.hid hv2; have HN1 := Lib.hid hn1; have HN2 := Lib.hid hn2
  obtain ⟨va, vc, rfl⟩ := hr.slice
  obtain ⟨v1a, v1c, rfl⟩ := hv1.slice
  obtain ⟨v2a, v2c, rfl⟩ := hv2.slice
  clear hr hn hv1 hv2 hn1 hn2 hm hl
  by_cases h0 : fromE [] rows = 0
  · have H0 := Lib.hid h0
    clear h0
    go_enter Try.func6, Try.ntmps6
    go_wp2_with fail
    refine HBo.out.mono ?_
    rintro e w1 ⟨hb1, _, h⟩
    obtain ⟨t, r, ow, rfl, hp, ho⟩ := h H0.out
    have HB1 := Lib.hid hb1
    have HR := Lib.hid (refHas_any 2 ow w1 r rows hp.r id)
    have HI := Lib.hid (TwI.start hp.t hb1 ho)
    clear h hb1 hp ho HBo
    cases hh : hasB rows.length id with
    | false =>
      rw [hh] at HR
      clear hh
      go_wp2_with (first
        | (go_at_call 23; refine HR.out.mono ?_; rintro e w' ⟨rfl, rfl⟩)
        | (go_at_call 21; refine (heads07_any _).mono ?_; rintro e w9 ⟨rfl, hb9⟩; have HB := Lib.hid (below_trans HB1.out hb9); clear hb9))
      go_ret
      exact ⟨rfl, HB.out⟩
    | true =>
      rw [hh] at HR
      clear hh
      go_wp2_with (go_at_call 23; refine HR.out.mono ?_; rintro e w' ⟨rfl, rfl⟩)
      refine (put07_any ow w1 t _ rows HI.out.tab id l1 HN1.out (HV1.out.below HB1.out) (by omega)).mono ?_
      rintro e w2 ⟨rfl, ow2, hk2, ht2⟩
      have HI2 := Lib.hid (HI.out.put hk2 ht2)
      have HA : Hid (∃ p, putP rows id l1 = p) := ⟨_, rfl⟩
      have HOK := Lib.hid HI.out.tab.ok
      clear hk2 ht2 HI HR
      obtain ⟨pA, hA⟩ := HA.out
      rw [hA] at HI2
      rw [hA]
      go_wp2_with fail
      refine (put07_any ow2 w2 t _ pA.rows HI2.out.tab pA.id l2 HN2.out (HV2.out.below HI2.out.bl) (by omega)).mono ?_
      rintro e w3 ⟨rfl, ow3, hk3, ht3⟩
      have HI3 := Lib.hid (HI2.out.put hk3 ht3)
      have HC : Hid (∃ p, putP pA.rows pA.id l2 = p) := ⟨_, rfl⟩
      clear hk3 ht3 HI2 HA
      obtain ⟨pB, hB⟩ := HC.out
      rw [hB] at HI3
      rw [hB]
      clear HC
      by_cases ea : pA.err = 0
      · by_cases eb : pB.err = 0
        · have g1 : (pA.err == 0) = true := by simp [ea]
          have g2 : (pB.err == 0) = true := by simp [eb]
          have HEA : Hid ((putP rows id l1).err = 0) := by rw [Hid, hA]; exact ea
          have HEB : Hid ((putP (putP rows id l1).rows (putP rows id l1).id l2).err = 0) := by rw [Hid, hA, hB]; exact eb
          have HAE := Lib.hid hA; have HBE := Lib.hid hB
          have HL1 := Lib.hid hl1
          have HL2 := Lib.hid hl2
          have HL12 := Lib.hid hl12
          clear hA hB hl1 hl2 hl12
          rw [ea, eb]
          clear ea eb
          go_wp2_with fail
          go_loopw [16, 17] (fun u i W => ∃ (j : Nat) (L : List HY) (r : List ND) (o : Own), i = .int .i64 (j : Int) ∧ TwB w W o t r u L ∧ ThenI rows r (sig (namedF l2) pA.rows) l1 L j ∧ pB.rows <+: r) (fun _ i _ => l1.length - (intOf i).toNat)
          case atStart => exact ⟨0, [], pB.rows, ow3, rfl, TwB.nil HI3.out, ⟨HI3.out.tab.ok, rfl, Nat.zero_le _, fun i x y hx hy => by simp at hy⟩, List.prefix_refl _⟩
          case round =>
            obtain ⟨j, L, r, o, rfl, hB, hT, hp⟩ := hrel
            have HB := Lib.hid hB; have HT := Lib.hid hT; have HP := Lib.hid hp
            obtain ⟨ua, uc, rfl⟩ := own_slice hB.own
            have HLJ : Hid (L.length = j) := hT.len
            have h1l : l1.length < 9223372036854775807 := by have := HL1.out; omega
            have h2l : l2.length < 9223372036854775807 := by have := HL2.out; omega
            by_cases hlt : j < l1.length
            · as_aux_lemma =>
              obtain ⟨b, bo, c1, x, e1, x0, x1, hx⟩ := hy_at (HV1.out.below hB.i.bl) hlt
              cases e1
              have HX := Lib.hid hx
              have hji : (j : Int) < (l1.length : Int) := by omega
              clear hB hT hp hx
              go_wp2_with fail
              refine (put07_any o wr t _ r HB.out.i.tab x.form l2 HN2.out (HV2.out.below HB.out.i.bl) (by have := HL2.out; omega)).mono ?_
              rintro e w5 ⟨rfl, ow5, hk5, ht5⟩
              have HB5 := Lib.hid (HB.out.put hk5 ht5)
              obtain ⟨b', bo', c1', x', e1', x0', x1', hx'⟩ := hy_at (HV1.out.below HB5.out.i.bl) hlt
              cases e1'
              obtain rfl : x = x' := by have := HX.out; rw [hx'] at this; exact (Option.some.inj this).symm
              clear hk5 ht5 x0 x1 hx' x1'
              have HVP : Hid (ValidP r x.form l2) := by
                have va := putP_err0 HEA.out
                have vb := putP_err0 HEB.out
                have hbA := putP_img HOK.out HEA.out
                have hbB := putP_img hbA.1 HEB.out
                rw [HAE.out, HBE.out] at hbB
                rw [HAE.out] at hbA
                rw [HAE.out] at vb
                exact vb.more (hbB.2.1.trans HP.out) (hasB_more (hbA.2.1.trans (hbB.2.1.trans HP.out)).length_le (List.all_eq_true.1 va.forms x (List.mem_of_getElem? HX.out)))
              have HIM : Hid ((putP r x.form l2).err = 0 → ImgOk r (putP r x.form l2) (sub (sig (namedF l2) pA.rows) (tree rows x.form.toNat))) := by
                intro h5
                have va := putP_err0 HEA.out
                have vb := putP_err0 HEB.out
                have hbA := putP_img HOK.out HEA.out
                have hbB := putP_img hbA.1 HEB.out
                rw [HAE.out, HBE.out] at hbB
                rw [HAE.out] at hbA
                rw [HAE.out] at vb
                have := putP_img HT.out.ok h5
                rw [sig_more (hbB.2.1.trans HP.out) vb.forms, tree_prefix (hbA.2.1.trans (hbB.2.1.trans HP.out)) (has_nat (List.all_eq_true.1 va.forms x (List.mem_of_getElem? HX.out))).1] at this
                exact this
              have HE5 : Hid ((putP r x.form l2).err = 0 ∨ (putP r x.form l2).err = 30) := putP_forms HT.out.ok HVP.out
              generalize putP r x.form l2 = p5 at *
              by_cases e5 : p5.err = 0
              · as_aux_lemma =>
                have h5 := HIM.out e5
                have HI5 := Lib.hid h5
                rw [e5]
                clear HIM HE5 h5 e5
                go_wp2_with (at_builtin; refine wp_append rfl (.tmp 85) (.tmp 93) 44 rfl w.heap.size 60 _ 2 24 Try.underlying44 infoHyp rfl (by decide) (by decide) _ L.length (hyCells L) rfl (own_belowC HB5.out.own (below_alloc _ _)) _ 1 [.string x.name, .int .i64 p5.id] rfl (rd_lit _ _ _ rfl rfl) (by simp [Value.oneCell']) (by have := HLJ.out; have := HL1.out; omega) (by have := HB5.out.i.bl.size; simp; omega) ?_; intro v6 w6 hown6 hgr6 hat6 hnil6; have HB6 := Lib.hid (HB5.out.add (x := ⟨x.name, p5.id⟩) hown6 hgr6 hat6); clear hown6 hgr6 hat6 hnil6)
                obtain ⟨k1, k2, k, k3, k4, k5⟩ := HI5.out
                refine ⟨⟨j + 1, L ++ [⟨x.name, p5.id⟩], p5.rows, _, by go_num, HB6.out, (HT.out.more k1 k2).snoc HX.out ?_ ?_, HP.out.trans k2⟩, by simp [intOf]; omega⟩
                · rw [k3]; simp [hasB, k4]
                · rw [k3, Int.toNat_natCast]; exact k5
              · as_aux_lemma =>
                have e30 : p5.err = 30 := HE5.out.resolve_left e5
                rw [e30]
                go_wp2_with (go_at_call 21; refine (heads07_any _).mono ?_; rintro e w9 ⟨rfl, hb9⟩; have HBX := Lib.hid (below_trans HB5.out.i.bl hb9); clear hb9)
                go_ret
                exact ⟨rfl, HBX.out⟩
            · as_aux_lemma =>
              obtain rfl : j = l1.length := by have := hT.le; omega
              clear hB hT hp hlt
              have HW0 : Hid (∃ W0 : World, W0 = wr) := ⟨_, rfl⟩
              obtain ⟨W0, hW0⟩ := HW0.out
              subst hW0
              clear HW0
              go_wp2_with fail
              go_loopw [16, 20] (fun u i W => ∃ (k : Nat) (o : Own), k ≤ l2.length ∧ i = .int .i64 (k : Int) ∧ TwB w W o t r u (L ++ othersL l1 (l2.take k))) (fun _ i _ => l2.length - (intOf i).toNat)
              case atStart => exact ⟨0, o, Nat.zero_le _, rfl, by simpa [othersL] using HB.out⟩
              case round =>
                obtain ⟨k, o2, hk, rfl, hB2⟩ := hrel
                have HB2 := Lib.hid hB2
                obtain ⟨ua2, uc2, rfl⟩ := own_slice hB2.own
                have HW0 : Hid (∃ W2 : World, W2 = wr) := ⟨_, rfl⟩
                obtain ⟨W2, hW2⟩ := HW0.out
                subst hW2
                clear HW0
                by_cases hlt : k < l2.length
                · as_aux_lemma =>
                  obtain ⟨b, bo, c1, y, e1, y0, y1, hy⟩ := hy_at (HV2.out.below hB2.i.bl) hlt
                  cases e1
                  have HY2 := Lib.hid hy
                  have hki : (k : Int) < (l2.length : Int) := by omega
                  have HLB : Hid ((L ++ othersL l1 (l2.take k)).length ≤ l1.length + k) := by
                    unfold Hid
                    have h1 := HLJ.out
                    have h2 : (othersL l1 (l2.take k)).length ≤ (l2.take k).length := List.length_filter_le _ _
                    rw [List.length_take] at h2
                    rw [List.length_append]; omega
                  have HS : Hid (L ++ othersL l1 (l2.take (k + 1)) = (L ++ othersL l1 (l2.take k)) ++ (if otherB l1 y.name = true then [] else [y])) := by
                    unfold Hid othersL
                    rw [List.take_add_one, hy, List.filter_append, List.append_assoc]
                    congr 2
                    cases hO : otherB l1 y.name <;> simp [hO]
                  clear hy hB2 y0 y1
                  generalize L ++ othersL l1 (l2.take k) = M at *
                  go_wp2_with fail
                  go_loopw [21, 22] (fun u i W => ∃ q : Nat, q ≤ l1.length ∧ i = .int .i64 (q : Int) ∧ u = .bool (otherB (l1.take q) y.name) ∧ Below W2.heap.size W2 W) (fun _ i _ => l1.length - (intOf i).toNat)
                  case atStart => exact ⟨0, Nat.zero_le _, rfl, rfl, Below.refl _ _⟩
                  case round =>
                    obtain ⟨q, hq, rfl, rfl, hb3⟩ := hrel
                    have HB3 := Lib.hid hb3
                    have HBL := Lib.hid (below_trans HB2.out.i.bl hb3)
                    obtain ⟨b', bo', c1', y', e1', y0, y1, hy'⟩ := hy_at (HV2.out.below HBL.out) hlt
                    cases e1'
                    obtain rfl : y = y' := by have := HY2.out; rw [hy'] at this; exact (Option.some.inj this).symm
                    clear hy' hb3
                    by_cases hq1 : q < l1.length
                    · as_aux_lemma =>
                      obtain ⟨b, bo, c1, x, e1, x0, x1, hx⟩ := hy_at (HV1.out.below HBL.out) hq1
                      cases e1
                      have HS1 : Hid (otherB (l1.take (q + 1)) y.name = (otherB (l1.take q) y.name || decide (x.name = y.name))) := by
                        unfold Hid otherB
                        rw [List.take_add_one, hx]; simp
                      have hqi : (q : Int) < (l1.length : Int) := by omega
                      obtain ⟨xn, xf⟩ := x
                      obtain ⟨yn, yf⟩ := y
                      simp only at x0 x1 y0 y1 HS1
                      clear hx x1 y1
                      cases hO : otherB (l1.take q) yn with
                      | true =>
                        rw [hO] at HS1
                        go_wp2
                        go_quiet (fail)
                        go_wp2
                        exact ⟨⟨q + 1, by omega, by go_num, by rw [HS1.out]; rfl, below_trans HB3.out (below_drewN _ _)⟩, by simp [intOf]; omega⟩
                      | false =>
                        rw [hO] at HS1
                        go_wp2
                        go_quiet (fail)
                        go_wp2
                        refine ⟨⟨q + 1, by omega, by go_num, ?_, below_trans HB3.out (below_drewN _ _)⟩, by simp [intOf]; omega⟩
                        rw [HS1.out]
                        have hb : (xn.toList == yn.toList) = decide (xn = yn) := by
                          by_cases e : xn = yn
                          · simp [e]
                          · have : ¬ xn.toList = yn.toList := fun h => e (bytes_ext.1 h)
                            simp [e, this]
                        rw [hb]; rfl
                    · as_aux_lemma =>
                      obtain rfl : q = l1.length := by omega
                      rw [List.take_length]
                      have HB4 := Lib.hid (HB2.out.below HB3.out)
                      clear hq1 hq
                      cases hO : otherB l1 y.name with
                      | true =>
                        rw [hO] at HS
                        go_wp2_with fail
                        refine ⟨⟨k + 1, o2, by omega, by go_num, ?_⟩, by simp [intOf]; omega⟩
                        rw [HS.out]
                        simpa using HB4.out
                      | false =>
                        rw [hO] at HS
                        obtain ⟨yn, yf⟩ := y
                        simp only at y0 y1
                        go_wp2_with (at_builtin; refine wp_append rfl (.tmp 123) (.tmp 128) 44 rfl w.heap.size 60 _ 2 24 Try.underlying44 infoHyp rfl (by decide) (by decide) _ M.length (hyCells M) rfl (own_belowC HB4.out.own (below_alloc _ _)) _ 1 [.string yn, .int .i64 yf] rfl (rd_lit _ _ _ rfl rfl) (by simp [Value.oneCell']) (by have := HLB.out; have := HL12.out; omega) (by have := HB4.out.i.bl.size; simp; omega) ?_; intro v6 w6 hown6 hgr6 hat6 hnil6; have HB6 := Lib.hid (HB4.out.add (x := ⟨yn, yf⟩) hown6 hgr6 hat6); clear hown6 hgr6 hat6 hnil6)
                        refine ⟨⟨k + 1, re2 o2 wr, by omega, by go_num, ?_⟩, by simp [intOf]; omega⟩
                        rw [HS.out]
                        exact HB6.out
                · as_aux_lemma =>
                  obtain rfl : k = l2.length := by omega
                  have hB3 := HB2.out
                  have hown3 := hB3.own
                  rw [List.take_length] at hB3 hown3
                  have HB3 := Lib.hid hB3
                  have HRD := Lib.hid (rd_own hown3)
                  have HLN : Hid ((L ++ othersL l1 l2).length ≤ l1.length + l2.length) := by
                    unfold Hid
                    have h1 := HLJ.out
                    have h2 : (othersL l1 l2).length ≤ l2.length := List.length_filter_le _ _
                    rw [List.length_append]; omega
                  have HNM : Hid (∀ x ∈ L ++ othersL l1 l2, x.name.size ≤ maxLen) := by
                    intro x hx
                    rcases List.mem_append.1 hx with hx | hx
                    · have h1 : x.name ∈ L.map (·.name) := List.mem_map.2 ⟨x, hx, rfl⟩
                      rw [names_of HT.out] at h1
                      obtain ⟨y, hy, e⟩ := List.mem_map.1 h1
                      rw [← e]; exact HN1.out y hy
                    · exact HN2.out x (List.mem_filter.1 hx).1
                  have HFIN : Hid ((putP r id (L ++ othersL l1 l2)).err = 30 ∨ ((putP r id (L ++ othersL l1 l2)).err = 0 ∧ (putP r id (L ++ othersL l1 l2)).id = pB.id)) := by
                    have h1 := twice_same (rN := r) (L := L) HOK.out HEA.out HEB.out (by rw [HAE.out, HBE.out]; exact HP.out) (by rw [HAE.out]; exact HT.out)
                    rw [HAE.out, HBE.out] at h1
                    exact h1
                  rw [List.take_length]
                  clear hB3 hown3 hlt hk hB2 HB2
                  generalize L ++ othersL l1 l2 = M at *
                  go_wp2_with fail
                  refine (put07_any o2 W2 t _ r HB3.out.i.tab id M HNM.out HRD.out (by have := HLN.out; have := HL12.out; omega)).mono ?_
                  rintro e w5 ⟨rfl, ow5, hk5, ht5⟩
                  have HI5 := Lib.hid (HB3.out.i.put hk5 ht5)
                  clear hk5 ht5
                  generalize putP r id M = p5 at *
                  rcases HFIN.out with e5 | ⟨e5, e6⟩
                  · rw [e5]
                    go_wp2_with (go_at_call 21; refine (heads07_any _).mono ?_; rintro e w9 ⟨rfl, hb9⟩; have HBX := Lib.hid (below_trans HI5.out.bl hb9); clear hb9)
                    go_ret
                    exact ⟨rfl, HBX.out⟩
                  · rw [e5, e6]
                    go_wp2_with (go_at_call 21; refine (heads07_any _).mono ?_; rintro e w9 ⟨rfl, hb9⟩; have HBX := Lib.hid (below_trans HI5.out.bl hb9); clear hb9)
                    go_ret
                    exact ⟨rfl, HBX.out⟩
        · clear hA hB
          rw [ea]
          clear ea
          go_wp2_with (go_at_call 21; refine (heads07_any _).mono ?_; rintro e w9 ⟨rfl, hb9⟩; have HB := Lib.hid (below_trans HI3.out.bl hb9); clear hb9)
          go_ret
          exact ⟨rfl, HB.out⟩
      · clear hA hB
        go_wp2_with (go_at_call 21; refine (heads07_any _).mono ?_; rintro e w9 ⟨rfl, hb9⟩; have HB := Lib.hid (below_trans HI3.out.bl hb9); clear hb9)
        go_ret
        exact ⟨rfl, HB.out⟩
  · have H0 := Lib.hid h0
    clear h0
    go_enter Try.func6, Try.ntmps6
    go_wp2_with (first
      | (go_at_call 22; refine HBo.out.mono ?_; rintro e w1 ⟨hb1, h, _⟩; have he := h H0.out; subst he; have HB1 := Lib.hid hb1; clear h hb1)
      | (go_at_call 21; refine (heads07_any _).mono ?_; rintro e w9 ⟨rfl, hb9⟩; have HB := Lib.hid (below_trans HB1.out hb9); clear hb9))
    go_ret
    exact ⟨rfl, HB.out⟩

end Go.Dk

