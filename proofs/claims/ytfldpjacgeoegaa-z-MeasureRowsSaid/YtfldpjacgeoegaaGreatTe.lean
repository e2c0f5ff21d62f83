/- Weights: the program's, the document's. -/
import Derived.Test.YtfldpjacgeoegaaGreatTc
import Derived.Test.YtfldpjacgeoegaaGreatPu
import Derived.Test.YtfldpjacgeoegaaGreatYo
namespace Go.Dk
open Go.RowKit Go.Maps Go.MapKept
open Go.Proofs hiding intOf

def wts (rows : List ND) (zs : List Int) : List Int := zs.map fun z => val weightOf rows z.toNat
def allH (rows : List ND) (zs : List Int) : Bool := zs.all fun z => hasB rows.length z
/-- What Weights tells. -/
def wL (rows : List ND) (zs : List Int) : List Int := if allH rows zs = true then fall (wts rows zs) else []
def wE (rows : List ND) (zs : List Int) : Int := if allH rows zs = true then 0 else 31
theorem wts_snoc (rows : List ND) (zs : List Int) (k : Nat) (z : Int) (h : zs[k]? = some z) : wts rows (zs.take (k + 1)) = wts rows (zs.take k) ++ [val weightOf rows z.toNat] := by
  unfold wts; rw [List.take_add_one, h]; simp
theorem wts_length (rows : List ND) (zs : List Int) : (wts rows zs).length = zs.length := by simp [wts]
theorem allH_snoc {rows : List ND} {zs : List Int} {k : Nat} {z : Int} (h : zs[k]? = some z) : allH rows (zs.take (k + 1)) = (allH rows (zs.take k) && hasB rows.length z) := by
  unfold allH; rw [List.take_add_one, h]; simp
theorem allH_not {rows : List ND} {zs : List Int} {k : Nat} {z : Int} (h : zs[k]? = some z) (hb : hasB rows.length z = false) : allH rows zs = false := by
  unfold allH
  rw [List.all_eq_false]
  exact ⟨z, List.mem_of_getElem? h, by rw [hb]; simp⟩
theorem wts_bd {rows : List ND} (ok : Ok rows) {zs : List Int} (h : allH rows zs = true) : ∀ x ∈ wts rows zs, 0 ≤ x ∧ x ≤ MC := by
  intro x hx
  unfold wts at hx
  obtain ⟨z, hz, rfl⟩ := List.mem_map.1 hx
  unfold allH at h
  obtain ⟨y, rfl, hy⟩ := has_natA (List.all_eq_true.1 h z hz)
  have := weight_bd ok y hy
  simp only [Int.toNat_natCast]
  omega

def WtsPost (w : World) (rows : List ND) (zs : List Int) (e : Ending) (w' : World) : Prop :=
  ∃ v, e = .returned (.tuple #[v, .int .i64 (wE rows zs)]) ∧ w'.ownsRow w.heap.size 3 1 v (wL rows zs).length (ints (wL rows zs)) ∧ Below w.heap.size w w'

theorem ints_snocA (zs : List Int) (x : Int) : ints zs ++ [.int .i64 x] = ints (zs ++ [x]) := by simp [ints]

set_option maxRecDepth 100000 in
set_option maxHeartbeats 2000000 in
theorem weightsP_any (k : Nat) (ow : Own) (w : World) (t v : Value) (rows : List ND) (zs : List Int) (h : Tab k ow w t rows) (hv : Rd w v zs.length 1 (ints zs)) (hl : zs.length * 8 ≤ 140737488355328) :
    Calls Tryz.prog 18 #[t, v] w (WtsPost w rows zs) := by
  have hok := h.ok
  have H := Lib.hid h
  have HV := Lib.hid hv
  have HK := Lib.hid hok
  obtain ⟨va, vc, rfl⟩ := hv.slice
  clear h hv hok
  go_enter Tryz.func18, Tryz.ntmps18
  go_wp2_with (go_at_call 40; refine (copy_any k ow _ _ _ (H.out.below (by repeat (with_reducible first | exact Below.refl _ _ | exact HB.out | refine below_trans ?_ (below_alloc _ _) | refine below_trans ?_ (below_drew1 _) | refine below_trans ?_ (below_drewN _ _) | refine below_sc ?_ (by first | exact Nat.le_refl _ | (simp; done) | (simp; omega))))) 3).mono ?_; rintro e w1 ⟨c, ow1, rfl, ht1, hk1, hb1⟩; obtain ⟨pc, hpc⟩ := ht1.ptr; subst hpc; have HB := Lib.hid (below_trans (w := w) (by repeat (with_reducible first | exact Below.refl _ _ | exact HB.out | refine below_trans ?_ (below_alloc _ _) | refine below_trans ?_ (below_drew1 _) | refine below_trans ?_ (below_drewN _ _) | refine below_sc ?_ (by first | exact Nat.le_refl _ | (simp; done) | (simp; omega)))) hb1); clear ht1 hk1 hb1)
  go_loopw [6, 16] (fun u i W => ∃ j : Nat, j ≤ zs.length ∧ i = .int .i64 (j : Int) ∧ allH rows (zs.take j) = true ∧ W.ownsRow w.heap.size 3 1 u j (ints (wts rows (zs.take j))) ∧ Below w.heap.size w W) (fun _ i _ => zs.length - (intOf i).toNat)
  case atStart => exact ⟨0, Nat.zero_le _, rfl, by simp [allH], by simpa [wts, ints] using World.ownsRow_nil _ _ _ _, HB.out⟩
  case round =>
    obtain ⟨j, hj, rfl, hall, hown, hb⟩ := hrel
    have HA := Lib.hid hall; have HO := Lib.hid hown; have HB := Lib.hid hb
    obtain ⟨oa, oc, hoo⟩ := own_slice hown
    subst hoo
    clear hall hown hb
    by_cases hlt : j < zs.length
    · obtain ⟨b, o, c1, z, he, hc1, hzk⟩ := ints_at (HV.out.below HB.out) hlt
      cases he
      have HZ := Lib.hid hzk
      have hji : (j : Int) < (zs.length : Int) := by omega
      have HW := Lib.hid (weight_any k ow wr t rows (H.out.below HB.out) z)
      clear hzk
      by_cases hz : hasB rows.length z = true
      · have hw : weightT rows z = (val weightOf rows z.toNat, 0) := by unfold weightT; rw [if_pos hz]
        rw [hw] at HW
        have HS : Hid (allH rows (zs.take (j + 1)) = true) := by rw [Hid, allH_snoc HZ.out, HA.out, hz]; rfl
        have HT := Lib.hid (wts_snoc rows zs j z HZ.out)
        clear hw hz
        generalize val weightOf rows z.toNat = x at *
        go_wp2_with (first
          | (go_at_call 8; refine HW.out.mono ?_; rintro e w2 ⟨rfl, hb2⟩; have HO2 := Lib.hid (own_below HO.out hb2); have HB2 := Lib.hid (below_trans HB.out hb2); clear hb2)
          | (at_builtin; refine wp_append rfl (.tmp 29) (.tmp 31) 33 rfl w.heap.size 3 _ 1 8 Tryz.underlying33 infoInt rfl (by decide) (by decide) _ j (ints (wts rows (zs.take j))) rfl (own_below HO2.out (below_alloc _ _)) _ 1 [.int .i64 x] rfl (rd_one _ _ _) (by simp [Value.oneCell']) (by omega) (by have := HB2.out.size; simp; omega) ?_; intro v5 w5 hown5 hgr5 hat5 hnil5; have HO5 := Lib.hid hown5; have HB5 := Lib.hid ((below_trans HB2.out (below_alloc _ _)).grown hgr5 (by have := HB2.out.size; simp; omega) (fun q hq => (HO2.out.lt q hq).1)); clear hown5 hgr5 hat5 hnil5))
        refine ⟨⟨j + 1, by omega, by go_num, HS.out, ?_, HB5.out⟩, by simp [intOf]; omega⟩
        have := HO5.out
        rw [ints_snocA, ← HT.out] at this
        exact this
      · have hw : weightT rows z = (0, 31) := by unfold weightT; rw [if_neg hz]
        rw [hw] at HW
        have HN : Hid (allH rows zs = false) := allH_not HZ.out (by simpa using hz)
        clear hw hz
        go_wp2_with (go_at_call 8; refine HW.out.mono ?_; rintro e w2 ⟨rfl, hb2⟩; have HB2 := Lib.hid (below_trans HB.out hb2); clear hb2)
        go_ret2
        refine ⟨_, by unfold wE; rw [HN.out]; rfl, ?_, HB2.out⟩
        unfold wL
        rw [HN.out]
        exact World.ownsRow_nil _ _ _ _
    · obtain rfl : j = zs.length := by omega
      have hA := HA.out
      have hO := HO.out
      rw [List.take_length] at hA hO
      have HAA := Lib.hid hA
      have HOO := Lib.hid hO
      have HN : Hid (zs.length < 4611686018427387904) := by unfold Hid; omega
      clear hA hO
      go_wp2_with (go_at_call 41; refine (sortDown_own _ w.heap.size _ _ (wts rows zs) (wts_bd HK.out HAA.out) HOO.out HN.out).mono ?_; rintro e w2 ⟨rfl, hown2, hg2⟩; have HO2 := Lib.hid hown2; have HB2 := Lib.hid (HB.out.grown hg2 HB.out.size (fun q hq => (HOO.out.lt q hq).1)); clear hown2 hg2)
      go_ret2
      refine ⟨_, by unfold wE; rw [HAA.out]; rfl, ?_, HB2.out⟩
      unfold wL
      rw [HAA.out, if_pos rfl, fall_length, wts_length]
      exact HO2.out

/-! ### the document's -/
theorem set_midI {l : List Int} {k : Nat} {y z : Int} (hk : k ≤ l.length) : (l.take k ++ y :: l.drop k).set k z = l.take k ++ z :: l.drop k := by
  have h : (l.take k).length = k := by simp; omega
  rw [List.set_append_right _ _ (by omega), h]
  simp
theorem shift_midI {l : List Int} {k : Nat} {a y : Int} (ha : l[k]? = some a) : (l.take (k + 1) ++ y :: l.drop (k + 1)).set (k + 1) a = l.take k ++ a :: l.drop k := by
  have hk := (List.getElem?_eq_some_iff.1 ha).1
  rw [set_midI (by omega), List.take_add_one, ha, List.drop_eq_getElem_cons hk, (List.getElem?_eq_some_iff.1 ha).2]
  simp

/-- A row of numbers that is the call's own. -/
structure InsI (w W : World) (g cap n : Nat) (l : List Int) : Prop where
  own : W.ownsRow w.heap.size 3 1 (.slice (some ⟨g, 0, none⟩) n cap) n (ints l)
  bl : Below w.heap.size w W
theorem InsI.set {w W : World} {g cap n : Nat} {l : List Int} (h : InsI w W g cap n l) (k : Nat) (x : Int) : InsI w (W.setCell ⟨g, k, none⟩ (.int .i64 x)) g cap n (l.set k x) := by
  obtain ⟨h1, h2⟩ := h.own.stored k (.int .i64 x)
  rw [ints_setA] at h1
  exact ⟨h1, h.bl.grown h2 h.bl.size (by intro q hq; cases hq; exact (h.own.lt g rfl).1)⟩
theorem InsI.cell {w W : World} {g cap n : Nat} {l : List Int} (h : InsI w W g cap n l) {k : Nat} (hk : k < n) : ∃ x, W.cell? ⟨g, k, none⟩ = some (.int .i64 x) ∧ l[k]? = some x := by
  have hl : l.length = n := by have := h.own.1; simpa [ints] using this
  obtain ⟨x, hx⟩ : ∃ x, l[k]? = some x := ⟨_, List.getElem?_eq_getElem (by omega)⟩
  refine ⟨x, ?_, hx⟩
  rw [h.own.cellAt k (by omega)]
  simp [ints, hx]

set_option maxRecDepth 100000 in
set_option maxHeartbeats 400000 in
theorem refAllWeights_zero (k : Nat) (ow : Own) (w : World) (t : Value) (h : RTab k ow w t []) :
    Calls Tryz.prog 15 #[t] w fun e w' => ∃ a c, e = .returned (.slice a 0 c) ∧ Below w.heap.size w w' := by
  obtain ⟨rb, v, rfl, ht⟩ := h
  obtain ⟨a, c, rfl⟩ := ht.hr.slice
  have c0 : w.cell? ⟨rb, 0, none⟩ = some (.slice a ([] : List ND).length c) := cell_of ht.hp rfl
  simp only [List.length_nil] at c0
  obtain ⟨inf, hi1, hi2, hi3, hi4⟩ := infoIntA
  obtain ⟨w1, hmk1, hown1, hgr1⟩ := run_makeSlice_full (P := Tryz.prog) w w.heap.size 33 3 inf (.int .i64 0) 1 Tryz.underlying33 hi1 hi2 hi3 .i64 .i64 0 (by omega) (by rw [hi4]; omega) (by unfold maxLen; omega) (Nat.le_refl _)
  have hmk : (Instr.makeSlice 33 (.int .i64 0) (.int .i64 0)).run Tryz.prog w = .ok (.slice (some ⟨w.heap.size, 0, none⟩) 0 0) w1 := hmk1
  have HB : Hid (Below w.heap.size w w1) := (Below.refl _ _).grown hgr1 (Nat.le_refl _) (by intro k hk; cases hk)
  clear hmk1 hown1 hgr1 hi1 hi2 hi3 hi4 ht
  go_enter Tryz.func15, Tryz.ntmps15
  go_wp2_with fail
  go_loopw [4] (fun u W => u = .int .i64 0 ∧ Below w.heap.size w W) (fun _ _ => 0)
  case atStart => exact ⟨rfl, HB.out⟩
  case round =>
    obtain ⟨rfl, hb⟩ := hrel
    have HB := Lib.hid hb
    clear hb
    go_wp2_with fail
    go_ret
    exact ⟨_, _, rfl, HB.out⟩

set_option maxRecDepth 100000 in
set_option maxHeartbeats 4000000 in
theorem refWeights_any (k : Nat) (ow : Own) (w : World) (t v : Value) (rows : List ND) (zs : List Int) (h : RTab k ow w t rows) (hv : Rd w v zs.length 1 (ints zs)) (hl : zs.length * 8 ≤ 140737488355328) :
    Calls Tryz.prog 19 #[t, v] w (WtsPost w rows zs) := by
  have hok := h.ok
  have hle := hok.le
  have H := Lib.hid h
  have HV := Lib.hid hv
  have HK := Lib.hid hok
  obtain ⟨va, vc, rfl⟩ := hv.slice
  clear h hv hok
  have HAW : Hid (Calls Tryz.prog 15 #[t] w fun e w' => ∃ u, e = .returned u ∧ (∃ a c, u = .slice a rows.length c) ∧ Below w.heap.size w w' ∧ (0 < rows.length → w'.ownsRow w.heap.size 3 1 u (vals weightOf rows).length (ints (vals weightOf rows)))) := by
    by_cases h0 : 0 < rows.length
    · refine (refAllWeights_any k ow w t rows H.out h0).mono ?_
      rintro e w' ⟨u, rfl, h1, h2⟩
      obtain ⟨a, c, rfl⟩ := own_slice h1
      exact ⟨_, rfl, ⟨a, c, by rw [vals_length]⟩, h2, fun _ => h1⟩
    · obtain rfl : rows = [] := List.eq_nil_of_length_eq_zero (by omega)
      refine (refAllWeights_zero k ow w t H.out).mono ?_
      rintro e w' ⟨a, c, rfl, h2⟩
      exact ⟨_, rfl, ⟨a, c, rfl⟩, h2, fun h => absurd h h0⟩
  go_enter Tryz.func19, Tryz.ntmps19
  go_wp2_with fail
  refine HAW.out.mono ?_
  rintro e w1 ⟨u, rfl, ⟨ua, uc, rfl⟩, hb1, hu⟩
  have HU := Lib.hid hu
  have HB1 := Lib.hid hb1
  clear hb1 hu HAW
  go_wp2_with fail
  go_loopw [7, 8] (fun u i W => ∃ j : Nat, j ≤ zs.length ∧ i = .int .i64 (j : Int) ∧ allH rows (zs.take j) = true ∧ W.ownsRow w1.heap.size 3 1 u j (ints (fallTo (wts rows (zs.take j)))) ∧ Below w1.heap.size w1 W) (fun _ i _ => zs.length - (intOf i).toNat)
  case atStart => exact ⟨0, Nat.zero_le _, rfl, by simp [allH], by simpa [wts, ints, fallTo] using World.ownsRow_nil _ _ _ _, Below.refl _ _⟩
  case round =>
    obtain ⟨j, hj, rfl, hall, hown, hb⟩ := hrel
    have HA := Lib.hid hall; have HO := Lib.hid hown; have HB := Lib.hid hb
    obtain ⟨oa, oc, hoo⟩ := own_slice hown
    subst hoo
    clear hall hown hb
    by_cases hlt : j < zs.length
    · obtain ⟨b, o, c1, z, he, hc1, hzk⟩ := ints_at (HV.out.below (below_trans HB1.out HB.out)) hlt
      cases he
      have HZ := Lib.hid hzk
      have hji : (j : Int) < (zs.length : Int) := by omega
      have HW := Lib.hid (refHas_any k ow wr t rows (H.out.below (below_trans HB1.out HB.out)) z)
      clear hzk
      cases hz : hasB rows.length z with
      | false =>
        rw [hz] at HW
        have HN : Hid (allH rows zs = false) := allH_not HZ.out hz
        clear hz
        go_wp2_with (go_at_call 10; refine HW.out.mono ?_; rintro e w' ⟨rfl, rfl⟩)
        go_ret2
        refine ⟨_, by unfold wE; rw [HN.out]; rfl, ?_, below_trans HB1.out HB.out⟩
        unfold wL
        rw [HN.out]
        exact World.ownsRow_nil _ _ _ _
      | true =>
        rw [hz] at HW
        have HS : Hid (allH rows (zs.take (j + 1)) = true) := by rw [Hid, allH_snoc HZ.out, HA.out, hz]; rfl
        have hT := wts_snoc rows zs j z HZ.out
        obtain ⟨y, rfl, hy⟩ := has_natA hz
        simp only [Int.toNat_natCast] at hT
        obtain ⟨ug, ucc, hue, huc⟩ := vals_cell (HU.out (by omega)) hy
        cases hue
        have hcy : wr.cell? ⟨ug, y, none⟩ = some (.int .i64 (val weightOf rows y)) := (HB.out.cell (p := ⟨ug, y, none⟩) (World.block_lt_of_cell? _ _ huc)).trans huc
        have hyi : (y : Int) < (rows.length : Int) := by omega
        have HL : Hid (fallTo (wts rows (zs.take (j + 1))) = ins (val weightOf rows y) (fallTo (wts rows (zs.take j)))) := by rw [Hid, hT, fallTo_snoc]
        have HP := Lib.hid (fallTo_pairwise (wts rows (zs.take j)))
        have hll : (fallTo (wts rows (zs.take j))).length = j := by rw [fallTo_length, wts_length]; simp; omega
        clear hT hz huc hy
        generalize val weightOf rows y = x at *
        generalize fallTo (wts rows (zs.take j)) = l at *
        go_wp2_with (first
          | (go_at_call 10; refine HW.out.mono ?_; rintro e w' ⟨rfl, rfl⟩)
          | (at_builtin; refine wp_append rfl (.tmp 35) (.tmp 37) 33 rfl w1.heap.size 3 _ 1 8 Tryz.underlying33 infoInt rfl (by decide) (by decide) _ j (ints l) rfl (own_below HO.out (below_alloc _ _)) _ 1 [.int .i64 x] rfl (rd_one _ _ _) (by simp [Value.oneCell']) (by omega) (by have := HB.out.size; simp; omega) ?_; intro v5 w5 hown5 hgr5 hat5 hnil5; rw [ints_snocA] at hown5; obtain ⟨g, cap, hv5, _⟩ := own_some hown5 (by omega); subst hv5; have HI : Hid (InsI w1 w5 g cap (j + 1) (l.take j ++ x :: l.drop j)) := ⟨by rw [List.take_of_length_le (by omega), List.drop_of_length_le (by omega)]; exact hown5, (below_trans HB.out (below_alloc _ _)).grown hgr5 (by have := HB.out.size; simp; omega) (fun q hq => (HO.out.lt q hq).1)⟩; clear hown5 hgr5 hat5 hnil5))
        go_loopw [10] (fun u W => ∃ (k : Nat) (y : Int), k ≤ j ∧ u = .int .i64 k ∧ InsI w1 W g cap (j + 1) (l.take k ++ y :: l.drop k) ∧ ∀ i z, k ≤ i → l[i]? = some z → z < x) (fun u _ => (intOf u).toNat)
        case atStart => exact ⟨j, _, Nat.le_refl _, rfl, HI.out, fun i z hi hz => by have := (List.getElem?_eq_some_iff.1 hz).1; omega⟩
        case round =>
          obtain ⟨q, y', hq, rfl, hI, hal⟩ := hrel
          have HJ := Lib.hid hI
          have HAL := Lib.hid hal
          obtain ⟨z, hz, _⟩ := hI.cell (k := q) (by omega)
          have hf := hI.own.frozenAt q
          have hqn : (q : Int) < (j : Int) + 1 := by omega
          clear hI hal
          cases q with
          | zero =>
            have HE : Hid (ins x l = l.take 0 ++ x :: l.drop 0) := ins_split _ _ HP.out 0 (by omega) HAL.out (.inl rfl)
            have hz0 : wr.cell? ⟨g, 0, none⟩ = some (.int .i64 z) := hz
            have hJ := HJ.out.set 0 x
            rw [set_midI (by omega), ← HE.out, ← HL.out] at hJ
            have HF := Lib.hid hJ
            clear hJ
            rw [show ((0 : Nat) : Int) = 0 from rfl] at *
            go_wp2_with fail
            exact ⟨⟨j + 1, by omega, by go_num, HS.out, HF.out.own, HF.out.bl⟩, by simp [intOf]; omega⟩
          | succ q =>
            obtain ⟨b', hc, hbk⟩ := HJ.out.cell (k := q) (by omega)
            rw [List.getElem?_append_left (by simp; omega), List.getElem?_take, if_pos (by omega)] at hbk
            have HBK := Lib.hid hbk
            rw [show ((q + 1 : Nat) : Int) = (q : Int) + 1 by omega] at *
            have hqn2 : (q : Int) < (j : Int) + 1 := by omega
            clear hbk
            by_cases hlx : b' < x
            · have HLX := Lib.hid hlx
              have hJ := HJ.out.set (q + 1) b'
              rw [shift_midI HBK.out] at hJ
              have HJ2 := Lib.hid hJ
              clear hJ
              go_wp2_with fail
              refine ⟨⟨q, _, by omega, by go_num, HJ2.out, fun i zz hi hzz => ?_⟩, by simp [intOf] <;> omega⟩
              rcases Nat.lt_or_ge q i with h | h
              · exact HAL.out i zz (by omega) hzz
              · obtain rfl : i = q := by omega
                rw [HBK.out] at hzz
                exact Option.some.inj hzz ▸ HLX.out
            · have HE : Hid (ins x l = l.take (q + 1) ++ x :: l.drop (q + 1)) := ins_split _ _ HP.out (q + 1) (by omega) HAL.out (.inr ⟨_, by simpa using HBK.out, by omega⟩)
              have hJ := HJ.out.set (q + 1) x
              rw [set_midI (by omega), ← HE.out, ← HL.out] at hJ
              have HF := Lib.hid hJ
              clear hJ
              go_wp2_with fail
              exact ⟨⟨j + 1, by omega, by go_num, HS.out, HF.out.own, HF.out.bl⟩, by simp [intOf]; omega⟩
    · obtain rfl : j = zs.length := by omega
      have hA := HA.out
      have hO := HO.out
      rw [List.take_length] at hA hO
      rw [fallTo_eq] at hO
      have HAA := Lib.hid hA
      have HOO := Lib.hid hO
      clear hA hO
      go_wp2_with fail
      go_ret2
      refine ⟨_, by unfold wE; rw [HAA.out]; rfl, ?_, below_trans HB1.out HB.out⟩
      unfold wL
      rw [HAA.out, if_pos rfl, fall_length, wts_length]
      exact own_base HOO.out HB1.out.size

end Go.Dk

