/- SubstBack, walked. -/
import Derived.Test.YtmlohibhoibgkaaZj
import Derived.Test.YtmlohibhoibgkaaZt
import Derived.Test.YtmlohibhoibgkaaSv
import Derived.Test.YtmlohibhoibgkaaU
namespace Go.Dk
open Go.RowKit Go.Maps Go.MapKept
open Go.Proofs hiding intOf

theorem namesT_eq (rows : List ND) (id : Nat) : namesT rows (below rows id) = namesB rows id := rfl
/-- The first names, by themselves. -/
theorem same_at {rows : List ND} (ok : Ok rows) {id : Nat} (hid : id < rows.length) {j : Nat} {s : ByteArray} (hs : (namesB rows id)[j]? = some s) :
    ∃ k : Nat, rows.idxOf? ⟨1, s, 0, 0⟩ = some k ∧ (sameL rows id).take (j + 1) = (sameL rows id).take j ++ [⟨s, (k : Int)⟩] := by
  unfold namesB at hs
  rw [List.getElem?_map] at hs
  cases hk : (atomK rows id (below rows id))[j]? with
  | none => rw [hk] at hs; cases hs
  | some k =>
    rw [hk] at hs
    simp only [Option.map_some, Option.some.injEq] at hs
    subst hs
    obtain ⟨_, k1, h1⟩ := (atomK_mem ok hid).1 (List.mem_of_getElem? hk)
    refine ⟨k, ?_, ?_⟩
    · have hrow := rowAt_get h1
      refine idxOf?_get ok.nodup ?_
      rw [hrow]
      rcases ok.row hrow with ⟨a, b, c, _⟩ | h | ⟨h, _⟩
      · generalize rowAt rows k = n at *
        obtain ⟨kd, nm, l, r⟩ := n
        simp only at a b c
        subst a b c
        rfl
      · rw [h] at k1; cases k1
      · omega
    · have : (sameL rows id)[j]? = some ⟨(rowAt rows k).name, (k : Int)⟩ := by unfold sameL; rw [List.getElem?_map, hk]; rfl
      rw [List.take_add_one, this]; rfl
theorem sameL_len (rows : List ND) (id : Nat) : (sameL rows id).length = (namesB rows id).length := by simp [sameL, namesB]
theorem othersN_snoc {names : List ByteArray} {l : List HY} {j : Nat} {x : HY} (hx : l[j]? = some x) : othersN names (l.take (j + 1)) = if hasN names x.name = true then othersN names (l.take j) else othersN names (l.take j) ++ [x] := by
  unfold othersN hasN
  rw [List.take_add_one, hx, List.filter_append]
  cases h : (names.any fun s => decide (s = x.name)) <;> simp [h]
theorem othersN_le (names : List ByteArray) (l : List HY) : (othersN names l).length ≤ l.length := List.length_filter_le _ _
theorem named_next {l : List HY} (hd : (l.map (·.name)).Nodup) {k : Nat} {x : HY} (hx : l[k]? = some x) (s : ByteArray) : (namedF (l.take (k + 1)) s).getD (-1) = if x.name = s then x.form else (namedF (l.take k) s).getD (-1) := by
  rw [List.take_add_one, hx]
  simp only [Option.toList_some]
  have hnd := nodup_take (k + 1) hd
  rw [List.take_add_one, hx] at hnd
  simp only [Option.toList_some] at hnd
  rw [nodup_snoc (nodup_take k hd)] at hnd
  rw [namedF_snoc hnd]
  by_cases e : x.name = s
  · rw [if_pos e, if_pos e.symm]; rfl
  · rw [if_neg e, if_neg (Ne.symm e)]

def TrueB (w : World) (e : Ending) (w' : World) : Prop := e = .returned (.bool true) ∧ Below w.heap.size w w'
theorem name_le {rows : List ND} (ok : Ok rows) {i : Nat} (hi : i < rows.length) : (rowAt rows i).name.size ≤ maxLen := by
  have := fits_le (ok.fit _ _ (rowAt_get hi))
  unfold maxLen; omega
theorem sameL_small {rows : List ND} (ok : Ok rows) {id : Nat} (hid : id < rows.length) : ∀ x ∈ sameL rows id, x.name.size ≤ maxLen := by
  intro x hx
  obtain ⟨k, hk, rfl⟩ := List.mem_map.1 hx
  obtain ⟨_, _, h1⟩ := (atomK_mem ok hid).1 hk
  exact name_le ok h1

set_option maxRecDepth 100000 in
set_option maxHeartbeats 4000000 in
theorem substBack_any (w : World) (v : Value) (rows : List ND) (hn : ∀ n ∈ rows, n.name.size ≤ maxLen) (hr : Rd w v rows.length 4 (nodeCells rows)) (hm : rows.length ≤ maxLen) (hl : rows.length * 40 ≤ 140737488355328) (id : Int)
    (v1 : Value) (l1 : List HY) (hn1 : ∀ x ∈ l1, x.name.size ≤ maxLen) (hv1 : Rd w v1 l1.length 2 (hyCells l1)) (hl1 : l1.length * 24 ≤ 140737488355328) :
    Calls Try.prog 3 #[v, .int .i64 id, v1] w (TrueB w) := by
  have HBo := Lib.hid (both_any w v rows hn hr hm hl)
  have HV1 := Lib.hid hv1; have HN1 := Lib.hid hn1; have HL1 := Lib.hid hl1
  obtain ⟨va, vc, rfl⟩ := hr.slice
  obtain ⟨v1a, v1c, rfl⟩ := hv1.slice
  clear hr hn hv1 hn1 hm hl hl1
  by_cases h0 : fromE [] rows = 0
  · have H0 := Lib.hid h0
    clear h0
    go_enter Try.func3, Try.ntmps3
    go_wp2_with fail
    refine HBo.out.mono ?_
    rintro e w1 ⟨hb1, _, h⟩
    obtain ⟨t, r, ow, rfl, hp, ho⟩ := h H0.out
    have HB1 := Lib.hid hb1
    have HP := Lib.hid hp
    have HR := Lib.hid (refHas_any 2 ow w1 r rows hp.r id)
    have HOK := Lib.hid hp.t.ok
    have HO := Lib.hid ho
    clear h hb1 hp ho HBo
    cases hh : hasB rows.length id with
    | false =>
      rw [hh] at HR
      clear hh
      go_wp2_with (first
        | (go_at_call 8; refine HR.out.mono ?_; rintro e w' ⟨rfl, rfl⟩)
        | (go_at_call 9; refine (heads07_any _).mono ?_; rintro e w9 ⟨rfl, hb9⟩; have HB := Lib.hid (below_trans HB1.out hb9); clear hb9))
      go_ret
      exact ⟨rfl, HB.out⟩
    | true =>
      rw [hh] at HR
      obtain ⟨x, rfl, hx⟩ := nat_of_has hh
      have HX := Lib.hid hx
      have HHB := Lib.hid hh
      clear hh hx
      go_wp2_with (go_at_call 8; refine HR.out.mono ?_; rintro e w' ⟨rfl, rfl⟩)
      refine (atoms07_any 2 ow w1 r rows HP.out.r x HX.out).mono ?_
      rintro e w2 ⟨v2, rfl, hown2, hb2⟩
      rw [namesT_eq] at hown2
      obtain ⟨a2, c2, rfl⟩ := own_slice hown2
      have HNR := Lib.hid (rd_own hown2)
      have HB2 := Lib.hid hb2
      have HR2 := Lib.hid (HP.out.r.below hb2)
      have HLN : Hid ((namesB rows x).length ≤ 1024) := by
        have h1 := namesT_le rows (below rows x)
        rw [namesT_eq] at h1
        have := below_le rows x
        have := HOK.out.le
        have := HX.out
        unfold Hid; omega
      clear hown2 hb2 HR
      generalize hNB : namesB rows x = nb at *
      have HNB := Lib.hid hNB
      clear hNB
      go_wp2_with fail
      go_loopw [11, 13] (fun u i W => ∃ j : Nat, j ≤ nb.length ∧ i = .int .i64 (j : Int) ∧ Below w2.heap.size w2 W ∧ W.ownsRow w2.heap.size 38 2 u ((sameL rows x).take j).length (hyCells ((sameL rows x).take j))) (fun _ i _ => nb.length - (intOf i).toNat)
      case atStart => exact ⟨0, Nat.zero_le _, rfl, Below.refl _ _, World.ownsRow_nil _ _ _ _⟩
      case round =>
        obtain ⟨j, hj, rfl, hbl, hown⟩ := hrel
        have HBL := Lib.hid hbl; have HO1 := Lib.hid hown
        obtain ⟨ua, uc, rfl⟩ := own_slice hown
        clear hbl hown
        have hnl : nb.length ≤ 1024 := HLN.out
        by_cases hlt : j < nb.length
        · as_aux_lemma =>
          obtain ⟨b, o, c, s, e1, s0, hs⟩ := bas_at (HNR.out.below HBL.out) hlt
          cases e1
          obtain ⟨k, hk1, hk2⟩ := same_at HOK.out HX.out (by rw [HNB.out]; exact hs)
          have HK2 := Lib.hid hk2
          have HFI := Lib.hid (refFind_any 2 ow wr r rows (HR2.out.below HBL.out) 1 0 0 s)
          rw [hk1] at HFI
          have HSL : Hid (((sameL rows x).take j).length ≤ 1024) := by unfold Hid; rw [List.length_take]; omega
          have hji : (j : Int) < (nb.length : Int) := by omega
          have HS0 := Lib.hid s0
          clear hs hk1 hk2
          generalize (sameL rows x).take j = L at *
          go_wp2_with fail
          refine HFI.out.mono ?_
          rintro e w5 ⟨rfl, hb5⟩
          have HO5 := Lib.hid (own_belowC HO1.out hb5)
          have HB5 := Lib.hid (below_trans HBL.out hb5)
          have s5 := (hb5.cell (World.block_lt_of_cell? _ _ HS0.out)).trans HS0.out
          clear hb5 s0
          go_wp2_with (at_builtin; refine wp_append rfl (.tmp 65) (.tmp 72) 23 rfl w2.heap.size 38 _ 2 24 Try.underlying23 infoHyp rfl (by decide) (by decide) _ L.length (hyCells L) rfl (own_belowC HO5.out (below_alloc _ _)) _ 1 [.string s, .int .i64 (k : Int)] rfl (rd_lit _ _ _ rfl rfl) (by simp [Value.oneCell']) (by have := HSL.out; omega) (by have := HB5.out.size; simp; omega) ?_; intro v6 w6 hown6 hgr6 hat6 hnil6; have HA := Lib.hid (own_addHY (x := ⟨s, (k : Int)⟩) HB5.out HO5.out hown6 hgr6); clear hown6 hgr6 hat6 hnil6)
          exact ⟨⟨j + 1, by omega, by go_num, HA.out.1, by rw [HK2.out]; exact HA.out.2⟩, by simp [intOf]; omega⟩
        · as_aux_lemma =>
          obtain rfl : j = nb.length := by omega
          have hO := HO1.out
          rw [List.take_of_length_le (by rw [sameL_len, HNB.out]; omega)] at hO ⊢
          have HO2 := Lib.hid hO
          clear hO HO1
          have HW0 : Hid (∃ W0 : World, W0 = wr) := ⟨_, rfl⟩
          obtain ⟨W0, hW0⟩ := HW0.out
          subst hW0
          clear HW0
          have hl1 : l1.length < 9223372036854775807 := by have := HL1.out; omega
          have HBW := Lib.hid (below_trans HB1.out (below_trans HB2.out HBL.out))
          have HNR2 := Lib.hid (HNR.out.below HBL.out)
          go_wp2_with fail
          go_loopw [12, 16] (fun u i W => ∃ q : Nat, q ≤ l1.length ∧ i = .int .i64 (q : Int) ∧ Below W0.heap.size W0 W ∧ W.ownsRow W0.heap.size 38 2 u (othersN nb (l1.take q)).length (hyCells (othersN nb (l1.take q)))) (fun _ i _ => l1.length - (intOf i).toNat)
          case atStart => exact ⟨0, Nat.zero_le _, rfl, Below.refl _ _, World.ownsRow_nil _ _ _ _⟩
          case round =>
            obtain ⟨q, hq, rfl, hbl, hown⟩ := hrel
            have HBL3 := Lib.hid hbl; have HO3 := Lib.hid hown
            obtain ⟨oa, oc, rfl⟩ := own_slice hown
            clear hbl hown
            by_cases hlt : q < l1.length
            · as_aux_lemma =>
              obtain ⟨b, o, c, y, e1, y0, y1, hy⟩ := hy_at (HV1.out.below (below_trans HBW.out HBL3.out)) hlt
              cases e1
              have hqi : (q : Int) < (l1.length : Int) := by omega
              have HS := Lib.hid (othersN_snoc (names := nb) hy)
              have HHS := Lib.hid (hasN_any wr _ nb y.name (HNR2.out.below HBL3.out) (by have := HLN.out; omega))
              have HLO : Hid ((othersN nb (l1.take q)).length ≤ q) := by
                have h1 := othersN_le nb (l1.take q)
                rw [List.length_take] at h1
                unfold Hid; omega
              obtain ⟨yn, yf⟩ := y
              simp only at y0 y1 HS HHS
              clear hy
              generalize othersN nb (l1.take q) = L at *
              cases hh : hasN nb yn with
              | true =>
                rw [hh, if_pos rfl] at HS
                rw [hh] at HHS
                clear hh
                go_wp2_with (go_at_call 12; refine HHS.out.mono ?_; rintro e w' ⟨rfl, hw⟩; rw [hw]; clear hw)
                exact ⟨⟨q + 1, by omega, by go_num, HBL3.out, by rw [HS.out]; exact HO3.out⟩, by simp [intOf]; omega⟩
              | false =>
                rw [hh, if_neg (by decide)] at HS
                rw [hh] at HHS
                clear hh
                go_wp2_with (first
                  | (go_at_call 12; refine HHS.out.mono ?_; rintro e w' ⟨rfl, hw⟩; rw [hw]; clear hw)
                  | (at_builtin; refine wp_append rfl (.tmp 88) (.tmp 93) 23 rfl W0.heap.size 38 _ 2 24 Try.underlying23 infoHyp rfl (by decide) (by decide) _ L.length (hyCells L) rfl (own_belowC HO3.out (below_alloc _ _)) _ 1 [.string yn, .int .i64 yf] rfl (rd_lit _ _ _ rfl rfl) (by simp [Value.oneCell']) (by have := HLO.out; have := HL1.out; omega) (by have := HBL3.out.size; simp; omega) ?_; intro v6 w6 hown6 hgr6 hat6 hnil6; have HA := Lib.hid (own_addHY (x := ⟨yn, yf⟩) HBL3.out HO3.out hown6 hgr6); clear hown6 hgr6 hat6 hnil6))
                exact ⟨⟨q + 1, by omega, by go_num, HA.out.1, by rw [HS.out]; exact HA.out.2⟩, by simp [intOf]; omega⟩
            · as_aux_lemma =>
              obtain rfl : q = l1.length := by omega
              rw [List.take_length] at HO3 ⊢
              have HW3 := Lib.hid (below_trans HBW.out HBL3.out)
              have HS3 := Lib.hid (own_belowC HO2.out HBL3.out)
              obtain ⟨ua3, uc3, hu3⟩ := own_slice HS3.out
              cases hu3
              have HB13 : Hid (Below w1.heap.size w1 wr) := below_trans (below_trans HB2.out HBL.out) HBL3.out
              have HNR3 := Lib.hid (HNR2.out.below HBL3.out)
              have HS1 : Hid (w1.heap.size ≤ W0.heap.size) := (below_trans HB2.out HBL.out).size
              have HTB : Hid (TwI w wr (re2 ow w1) t rows) := ⟨tab_re2 HP.out.t HB13.out, HW3.out, fun b hb => by
                have := HB1.out.size
                unfold re2
                rw [if_pos (by omega)]
                exact HO.out b hb⟩
              have HSE := Lib.hid (same_put HOK.out HX.out)
              have HSM := Lib.hid (sameL_small HOK.out HX.out)
              have HLS : Hid ((sameL rows x).length = nb.length) := by rw [Hid, sameL_len, HNB.out]
              have HOP := Lib.hid (others_put HOK.out HX.out l1)
              have HOS : Hid (∀ y ∈ othersN nb l1, y.name.size ≤ maxLen) := fun y hy => HN1.out y (List.mem_filter.1 hy).1
              have HOL : Hid ((othersN nb l1).length ≤ l1.length) := othersN_le nb l1
              rw [HNB.out] at HOP
              clear HBL3 HBL HO2 HNR2 HNR HBW HB2 HP HO HR2
              go_wp2_with fail
              have hl1b := HL1.out
              refine (put07_any (re2 ow w1) wr t _ rows HTB.out.tab (x : Int) (sameL rows x) HSM.out (rd_own HS3.out) (by have := HLS.out; have := HLN.out; omega)).mono ?_
              rw [HSE.out]
              rintro e w5 ⟨rfl, ow5, hk5, ht5⟩
              have HT5 := Lib.hid (HTB.out.put hk5 ht5)
              have HO5 := Lib.hid (own_keptC HO3.out hk5 (fun g hg => by
                have := (HO3.out.lt g hg).1
                have := HB13.out.size
                have h3 := HW3.out.size
                have h4 : w1.heap.size ≤ W0.heap.size := HS1.out
                unfold re2
                rw [if_neg (by omega)]
                decide))
              clear hk5 ht5 HTB HS3 HO3
              go_wp2_with fail
              refine (put07_any ow5 w5 t _ rows HT5.out.tab (x : Int) (othersN nb l1) HOS.out (rd_own HO5.out) (by have := HOL.out; omega)).mono ?_
              have hop := HOP.out
              generalize putP rows (x : Int) (othersN nb l1) = p2 at *
              obtain ⟨hp2, hp2i⟩ := hop
              rintro e w6 ⟨rfl, ow6, hk6, ht6⟩
              rw [hp2] at ht6
              have HT6 := Lib.hid (HT5.out.put hk6 ht6)
              have HP2I := Lib.hid hp2i
              clear hk6 ht6 HT5 HO5 HOP hp2i hp2
              have HRP : Hid (∃ p, putP rows (x : Int) l1 = p) := ⟨_, rfl⟩
              obtain ⟨pC, hpC⟩ := HRP.out
              have HPC := Lib.hid hpC
              clear HRP hpC
              by_cases e2 : p2.err = 0
              all_goals
                first
                  | (rw [e2, HP2I.out e2]; clear e2)
                  | (have e3 : (p2.err == 0) = false := (by simp [e2]); clear e2)
                go_wp2_with fail
                refine (put07_any ow6 w6 t _ rows HT6.out.tab (x : Int) l1 HN1.out (HV1.out.below HT6.out.bl) (by omega)).mono ?_
                rw [HPC.out]
                rintro e w7 ⟨rfl, ow7, hk7, ht7⟩
                have HT7 := Lib.hid (HT6.out.put hk7 ht7)
                clear hk7 ht7 HT6
                by_cases ec : pC.err = 0
                · have HEC : Hid ((putP rows (x : Int) l1).err = 0) := by rw [Hid, HPC.out]; exact ec
                  have hpi := putP_img HOK.out HEC.out
                  rw [HPC.out] at hpi
                  obtain ⟨ok2, hpre, c, hc1, hc2, _⟩ := hpi
                  have HOK2 := Lib.hid ok2
                  have HPRE := Lib.hid hpre
                  have HLK : Hid (lookE pC.rows [(x : Int), pC.id] = 0) := by
                    refine lookE_yes ?_
                    have h1 : x < pC.rows.length := Nat.lt_of_lt_of_le HX.out hpre.length_le
                    rw [hc1]
                    simp [hasB, h1, hc2]
                  have HND : Hid ((l1.map (·.name)).Nodup) := by
                    have := (putP_err0 HEC.out).once
                    unfold Hid
                    unfold twiceB at this
                    simpa using this
                  have HFM : Hid (hyB rows l1 = true) := (putP_err0 HEC.out).forms
                  rw [ec]
                  clear ec ok2 hpre hc1 hc2
                  go_wp2_with fail
                  refine (match07_any ow7 w7 t pC.rows HT7.out.tab (x : Int) pC.id).mono ?_
                  rintro e w8 ⟨v8, L, b8, rfl, _, hm, hown8, hb8⟩
                  have hm := hm HLK.out
                  rw [Int.toNat_natCast] at hm
                  have hbm := back_match HOK.out HX.out HEC.out (l := L) (is := b8) (by rw [HPC.out]; exact hm)
                  rw [HPC.out, HNB.out] at hbm
                  obtain ⟨rfl, hlen, hall⟩ := hbm
                  rw [HLK.out]
                  have HALL := Lib.hid hall
                  have HT8 := Lib.hid (HT7.out.below hb8)
                  obtain ⟨a8, c8, rfl⟩ := own_slice hown8
                  have HR8 := Lib.hid (rd_own hown8)
                  clear hm hown8 hb8 HT7 hall
                  have hLl : L.length ≤ 1024 := by have := HLN.out; omega
                  go_wp2_with fail
                  go_loopw [26] (fun i W => ∃ j : Nat, j ≤ L.length ∧ i = .int .i64 (j : Int) ∧ Below w8.heap.size w8 W) (fun i _ => L.length - (intOf i).toNat)
                  case atStart => exact ⟨0, Nat.zero_le _, rfl, Below.refl _ _⟩
                  case round =>
                    obtain ⟨j, hj, rfl, hbj⟩ := hrel
                    have HBJ := Lib.hid hbj
                    clear hbj
                    have HW2 : Hid (∃ W2 : World, W2 = wr) := ⟨_, rfl⟩
                    obtain ⟨W2, hW2⟩ := HW2.out
                    subst hW2
                    clear HW2
                    by_cases hlt : j < L.length
                    · as_aux_lemma =>
                      obtain ⟨b, o, c1, y, e1, y0, y1, hy⟩ := hy_at (HR8.out.below HBJ.out) hlt
                      cases e1
                      have HY := Lib.hid hy
                      have hji : (j : Int) < (L.length : Int) := by omega
                      clear hy y0 y1
                      go_wp2_with fail
                      go_loopw [27, 28] (fun u i W => ∃ q : Nat, q ≤ l1.length ∧ i = .int .i64 (q : Int) ∧ u = .int .i64 ((namedF (l1.take q) y.name).getD (-1)) ∧ Below W2.heap.size W2 W) (fun _ i _ => l1.length - (intOf i).toNat)
                      case atStart => exact ⟨0, Nat.zero_le _, rfl, rfl, Below.refl _ _⟩
                      case round =>
                        obtain ⟨q, hq, rfl, rfl, hbq⟩ := hrel
                        have HBQ := Lib.hid hbq
                        have HBT := Lib.hid (below_trans HBJ.out hbq)
                        clear hbq
                        obtain ⟨b', o', c1', y', e1', y0, y1, hy'⟩ := hy_at (HR8.out.below HBT.out) hlt
                        cases e1'
                        obtain rfl : y = y' := by have := HY.out; rw [hy'] at this; exact (Option.some.inj this).symm
                        clear hy'
                        by_cases hq1 : q < l1.length
                        · as_aux_lemma =>
                          obtain ⟨b2, o2, c2', z, e2', z0, z1, hz⟩ := hy_at (HV1.out.below (below_trans HT8.out.bl HBT.out)) hq1
                          cases e2'
                          have HS := Lib.hid (named_next HND.out hz y.name)
                          have hqi : (q : Int) < (l1.length : Int) := by omega
                          obtain ⟨yn, yf⟩ := y
                          obtain ⟨zn, zf⟩ := z
                          simp only at y0 y1 z0 z1 HS
                          have heq := nameEq zn yn
                          clear hz
                          generalize (namedF (l1.take q) yn).getD (-1) = want at *
                          by_cases e : zn = yn
                          · rw [if_pos e] at HS
                            simp only [e, decide_true] at heq
                            rw [e] at z0
                            clear e
                            go_wp2
                            go_quiet (fail)
                            have HB3 := Lib.hid (below_trans HBQ.out (below_drewN wr nq))
                            have z1' := ((below_drewN wr nq).cell (World.block_lt_of_cell? _ _ z1)).trans z1
                            clear z1 y0 y1 z0
                            go_wp2
                            exact ⟨⟨q + 1, by omega, by go_num, by rw [HS.out], HB3.out⟩, by simp [intOf]; omega⟩
                          · rw [if_neg e] at HS
                            simp only [e, decide_false] at heq
                            clear e
                            go_wp2
                            go_quiet (fail)
                            have HB3 := Lib.hid (below_trans HBQ.out (below_drewN wr nq))
                            clear z0 z1 y0 y1
                            go_wp2
                            exact ⟨⟨q + 1, by omega, by go_num, by rw [HS.out], HB3.out⟩, by simp [intOf]; omega⟩
                        · as_aux_lemma =>
                          obtain rfl : q = l1.length := by omega
                          rw [List.take_length]
                          obtain ⟨hyf, hys, hyn⟩ := HALL.out y (List.mem_of_getElem? HY.out)
                          obtain ⟨yn, yf⟩ := y
                          simp only at y0 y1 hyf hys hyn
                          obtain ⟨z, rfl, hz⟩ := nat_of_has hyf
                          have HRW := Lib.hid (rowAt_get hz)
                          rw [Int.toNat_natCast] at hyn
                          generalize rowAt pC.rows z = n at *
                          obtain ⟨kd, nm, nl, nr⟩ := n
                          simp only at hyn
                          have HWANT : Hid ((∃ f : Nat, (namedF l1 yn).getD (-1) = (f : Int) ∧ (z : Int) = (f : Int)) ∨ ((namedF l1 yn).getD (-1) = -1 ∧ kd = 1 ∧ nm = yn)) := by
                            unfold Hid
                            cases hnf : namedF l1 yn with
                            | none => exact .inr ⟨rfl, hyn hnf⟩
                            | some f =>
                              have hnn := hyB_nat HFM.out yn f hnf
                              exact .inl ⟨f.toNat, by simp only [Option.getD_some]; omega, by have := hys f hnf; omega⟩
                          clear hyf hys hyn hz
                          generalize (namedF l1 yn).getD (-1) = want at *
                          have HTQ := Lib.hid (HT8.out.below HBT.out)
                          have HRB := Lib.hid HBT.out
                          go_wp2_with (go_at_call 15; refine (node_yes 1 ow7 _ _ _ HTQ.out.tab _ _ HRW.out).mono ?_; rintro e w9 ⟨rfl, hb9⟩; have HB9 := Lib.hid (below_trans HBT.out (below_trans hb9 (below_alloc w9 (.cells #[.int .i64 kd, .string nm, .int .i64 nl, .int .i64 nr] 36)))); clear hb9 y0 y1)
                          obtain ⟨b', o', c1', y', e1', y0, y1, hy'⟩ := hy_at (HR8.out.below HB9.out) hlt
                          cases e1'
                          obtain rfl : (⟨yn, (z : Int)⟩ : Dk.HY) = y' := by have := HY.out; rw [hy'] at this; exact (Option.some.inj this).symm
                          simp only at y0 y1
                          have hbx := boxed_new w9 ⟨kd, nm, nl, nr⟩ 36
                          have q0 := hbx.c0; have q1 := hbx.c1
                          simp only at q0 q1
                          clear hy' hbx
                          rcases HWANT.out with ⟨f, hw1, hw2⟩ | ⟨hw1, hw2, hw3⟩
                          · as_aux_lemma =>
                            rw [hw1, ← hw2]
                            have hz0 : (0 : Int) ≤ (z : Int) := by omega
                            have hz1 : ¬ (z : Int) < 0 := by omega
                            clear hw1 hw2
                            go_quiet (fail)
                            have HB10 := Lib.hid (below_trans HB9.out (below_drewN _ nq))
                            go_wp2
                            exact ⟨⟨j + 1, by omega, by go_num, HB10.out⟩, by simp [intOf]; omega⟩
                          · as_aux_lemma =>
                            subst hw1 hw2 hw3
                            go_quiet (fail)
                            have HB10 := Lib.hid (below_trans HB9.out (below_drewN _ nq))
                            go_wp2
                            exact ⟨⟨j + 1, by omega, by go_num, HB10.out⟩, by simp [intOf]; omega⟩
                    · as_aux_lemma =>
                      have HB5 := Lib.hid (below_trans HT8.out.bl HBJ.out)
                      go_wp2_with (go_at_call 9; refine (heads07_any _).mono ?_; rintro e w9 ⟨rfl, hb9⟩; have HB := Lib.hid (below_trans HB5.out hb9); clear hb9)
                      go_ret
                      exact ⟨rfl, HB.out⟩
                · have gc : (pC.err != 0) = true := by simp [ec]
                  clear ec
                  go_wp2_with (go_at_call 9; refine (heads07_any _).mono ?_; rintro e w9 ⟨rfl, hb9⟩; have HB := Lib.hid (below_trans HT7.out.bl hb9); clear hb9)
                  go_ret
                  exact ⟨rfl, HB.out⟩
  · have H0 := Lib.hid h0
    clear h0
    go_enter Try.func3, Try.ntmps3
    go_wp2_with (first
      | (go_at_call 7; refine HBo.out.mono ?_; rintro e w1 ⟨hb1, h, _⟩; obtain rfl := h H0.out; have HB1 := Lib.hid hb1; clear h hb1)
      | (go_at_call 9; refine (heads07_any _).mono ?_; rintro e w9 ⟨rfl, hb9⟩; have HB := Lib.hid (below_trans HB1.out hb9); clear hb9))
    go_ret
    exact ⟨rfl, HB.out⟩

end Go.Dk

