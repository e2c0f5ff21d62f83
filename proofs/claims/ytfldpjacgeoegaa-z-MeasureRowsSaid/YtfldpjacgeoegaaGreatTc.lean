/- The walk of MeasureTells. -/
import Derived.Test.YtfldpjacgeoegaaGreatTb
namespace Go.Dk
open Go.RowKit Go.Maps Go.MapKept
open Go.Proofs hiding intOf

theorem has_natA {n : Nat} {i : Int} (h : hasB n i = true) : ∃ x : Nat, i = (x : Int) ∧ x < n := by
  unfold hasB at h; simp at h; exact ⟨i.toNat, by omega, by omega⟩
theorem vals_cell {of : ND → Int → Int → Int} {W : World} {base : Nat} {v : Value} {rows : List ND} (h : W.ownsRow base 3 1 v (vals of rows).length (ints (vals of rows))) {x : Nat} (hx : x < rows.length) :
    ∃ g c, v = .slice (some ⟨g, 0, none⟩) rows.length c ∧ W.cell? ⟨g, x, none⟩ = some (.int .i64 (val of rows x)) := by
  rw [vals_length] at h
  obtain ⟨g, c, rfl, _⟩ := own_some h (by omega)
  refine ⟨g, c, rfl, ?_⟩
  rw [h.cellAt x (by omega)]
  have hl : x < (vals of rows).length := by rw [vals_length]; exact hx
  simp only [ints, List.getElem?_map, List.getElem?_eq_getElem hl, Option.map_some, val, List.getD, Option.getD_some]

set_option maxRecDepth 100000 in
theorem same04_any (ow : Own) (w : World) (t r : Value) (rows : List ND) (h : Pair ow w t r rows rows) : Calls Tryz.prog 17 #[t, r] w fun e w' => e = .returned (.bool true) ∧ Below w.heap.size w w' := by
  have H := Lib.hid (like_any 1 2 ow ow w t r rows h.t h.r)
  clear h
  go_enter Tryz.func17, Tryz.ntmps17
  go_wp2_with fail
  refine H.out.mono ?_
  rintro e w1 ⟨rfl, hb1⟩
  have HB := Lib.hid hb1
  clear hb1
  go_wp2_with fail
  go_ret
  exact ⟨rfl, HB.out⟩

set_option maxRecDepth 100000 in
set_option maxHeartbeats 4000000 in
theorem measureTells_any (w : World) (v0 : Value) (rows0 : List ND) (id : Int) (hn : ∀ n ∈ rows0, n.name.size ≤ maxLen) (hr : Rd w v0 rows0.length 4 (nodeCells rows0)) (hm : rows0.length ≤ maxLen) (hl : rows0.length * 40 ≤ 140737488355328) :
    Calls Tryz.prog 3 #[v0, .int .i64 id] w fun e w' => e = .returned (.bool true) ∧ Below w.heap.size w w' := by
  have HT := Lib.hid (tables_any w v0 rows0 hn hr hm hl)
  generalize useR rows0 = rows at HT
  obtain ⟨a, c, rfl⟩ := hr.slice
  clear hn hr hm hl
  go_enter Tryz.func3, Tryz.ntmps3
  go_wp2_with fail
  refine HT.out.mono ?_
  rintro e w1 ⟨t, r, ow, rfl, hp, hb1⟩
  have ok := hp.t.ok
  have HP := Lib.hid hp
  have HX := Lib.hid hb1
  have HB : Hid (Below w1.heap.size w1 w1) := Below.refl _ _
  clear HT hp hb1
  have A1 := Lib.hid (fun W h => size_any 1 ow W t rows h id)
  have A2 := Lib.hid (fun W h => depth_any 1 ow W t rows h id)
  have A3 := Lib.hid (fun W h => weight_any 1 ow W t rows h id)
  have A4 := Lib.hid (fun W h => grade_any 1 ow W t rows h id)
  have A5 := Lib.hid (fun W h => refHas_any 2 ow W r rows h id)
  by_cases hb : hasB rows.length id = true
  · obtain ⟨x, rfl, hx⟩ := has_natA hb
    have e1 : weightT rows x = (val weightOf rows x, 0) := by unfold weightT; rw [if_pos hb]; rfl
    have e2 : sizeT rows x = (val sizeOf rows x, 0) := by unfold sizeT; rw [if_pos hb]; rfl
    have e3 : depthT rows x = (val depthOf rows x, 0) := by unfold depthT; rw [if_pos hb]; rfl
    have e4 : gradeT rows x = (val gradeOf rows x, 0) := by unfold gradeT; rw [if_pos hb]; rfl
    rw [e2] at A1; rw [e3] at A2; rw [e1] at A3; rw [e4] at A4; rw [hb] at A5
    clear e1 e2 e3 e4 hb
    have hxi : (x : Int) < (rows.length : Int) := by omega
    have hn0 : 0 < rows.length := by omega
    have B1 := Lib.hid (fun W h => refSizes_any 2 ow W r rows h hn0)
    have B2 := Lib.hid (fun W h => refDepths_any 2 ow W r rows h hn0)
    have B3 := Lib.hid (fun W h => refAllWeights_any 2 ow W r rows h hn0)
    have B4 := Lib.hid (fun W h => refGrades_any 2 ow W r rows h hn0)
    have VC : Hid (∀ {of : ND → Int → Int → Int} {W : World} {base : Nat} {v : Value}, W.ownsRow base 3 1 v (vals of rows).length (ints (vals of rows)) → ∃ g c, v = .slice (some ⟨g, 0, none⟩) rows.length c ∧ W.cell? ⟨g, x, none⟩ = some (.int .i64 (val of rows x))) := fun h => vals_cell h hx
    have HSM := Lib.hid (fun W h => same04_any ow W t r rows h)
    clear hx hn0 ok
    go_wp2_with (first
      | (go_at_call 11; refine (num06_any _ _).mono ?_; rintro e w' ⟨rfl, rfl⟩)
      | (go_at_call 6; refine (A1.out _ (HP.out.below (by repeat (with_reducible first | exact Below.refl _ _ | exact HB.out | refine below_trans ?_ (below_alloc _ _) | refine below_trans ?_ (below_drew1 _) | refine below_trans ?_ (below_drewN _ _) | refine below_sc ?_ (by first | exact Nat.le_refl _ | (simp; done) | (simp; omega))))).t).mono ?_; rintro e w2 ⟨rfl, hb2⟩; have HB := Lib.hid (below_trans (w := w1) (by repeat (with_reducible first | exact Below.refl _ _ | exact HB.out | refine below_trans ?_ (below_alloc _ _) | refine below_trans ?_ (below_drew1 _) | refine below_trans ?_ (below_drewN _ _) | refine below_sc ?_ (by first | exact Nat.le_refl _ | (simp; done) | (simp; omega)))) hb2); clear hb2)
      | (go_at_call 7; refine (A2.out _ (HP.out.below (by repeat (with_reducible first | exact Below.refl _ _ | exact HB.out | refine below_trans ?_ (below_alloc _ _) | refine below_trans ?_ (below_drew1 _) | refine below_trans ?_ (below_drewN _ _) | refine below_sc ?_ (by first | exact Nat.le_refl _ | (simp; done) | (simp; omega))))).t).mono ?_; rintro e w2 ⟨rfl, hb2⟩; have HB := Lib.hid (below_trans (w := w1) (by repeat (with_reducible first | exact Below.refl _ _ | exact HB.out | refine below_trans ?_ (below_alloc _ _) | refine below_trans ?_ (below_drew1 _) | refine below_trans ?_ (below_drewN _ _) | refine below_sc ?_ (by first | exact Nat.le_refl _ | (simp; done) | (simp; omega)))) hb2); clear hb2)
      | (go_at_call 8; refine (A3.out _ (HP.out.below (by repeat (with_reducible first | exact Below.refl _ _ | exact HB.out | refine below_trans ?_ (below_alloc _ _) | refine below_trans ?_ (below_drew1 _) | refine below_trans ?_ (below_drewN _ _) | refine below_sc ?_ (by first | exact Nat.le_refl _ | (simp; done) | (simp; omega))))).t).mono ?_; rintro e w2 ⟨rfl, hb2⟩; have HB := Lib.hid (below_trans (w := w1) (by repeat (with_reducible first | exact Below.refl _ _ | exact HB.out | refine below_trans ?_ (below_alloc _ _) | refine below_trans ?_ (below_drew1 _) | refine below_trans ?_ (below_drewN _ _) | refine below_sc ?_ (by first | exact Nat.le_refl _ | (simp; done) | (simp; omega)))) hb2); clear hb2)
      | (go_at_call 9; refine (A4.out _ (HP.out.below (by repeat (with_reducible first | exact Below.refl _ _ | exact HB.out | refine below_trans ?_ (below_alloc _ _) | refine below_trans ?_ (below_drew1 _) | refine below_trans ?_ (below_drewN _ _) | refine below_sc ?_ (by first | exact Nat.le_refl _ | (simp; done) | (simp; omega))))).t).mono ?_; rintro e w2 ⟨rfl, hb2⟩; have HB := Lib.hid (below_trans (w := w1) (by repeat (with_reducible first | exact Below.refl _ _ | exact HB.out | refine below_trans ?_ (below_alloc _ _) | refine below_trans ?_ (below_drew1 _) | refine below_trans ?_ (below_drewN _ _) | refine below_sc ?_ (by first | exact Nat.le_refl _ | (simp; done) | (simp; omega)))) hb2); clear hb2)
      | (go_at_call 10; refine (A5.out _ (HP.out.below (by repeat (with_reducible first | exact Below.refl _ _ | exact HB.out | refine below_trans ?_ (below_alloc _ _) | refine below_trans ?_ (below_drew1 _) | refine below_trans ?_ (below_drewN _ _) | refine below_sc ?_ (by first | exact Nat.le_refl _ | (simp; done) | (simp; omega))))).r).mono ?_; rintro e w' ⟨rfl, rfl⟩)
      | (go_at_call 13; refine (B1.out _ (HP.out.below (by repeat (with_reducible first | exact Below.refl _ _ | exact HB.out | refine below_trans ?_ (below_alloc _ _) | refine below_trans ?_ (below_drew1 _) | refine below_trans ?_ (below_drewN _ _) | refine below_sc ?_ (by first | exact Nat.le_refl _ | (simp; done) | (simp; omega))))).r).mono ?_; rintro e w3 ⟨v3, rfl, hown3, hb3⟩; obtain ⟨g3, c3, hv3, hc3⟩ := VC.out hown3; subst hv3; have HB := Lib.hid (below_trans (w := w1) (by repeat (with_reducible first | exact Below.refl _ _ | exact HB.out | refine below_trans ?_ (below_alloc _ _) | refine below_trans ?_ (below_drew1 _) | refine below_trans ?_ (below_drewN _ _) | refine below_sc ?_ (by first | exact Nat.le_refl _ | (simp; done) | (simp; omega)))) hb3); clear hown3 hb3)
      | (go_at_call 14; refine (B2.out _ (HP.out.below (by repeat (with_reducible first | exact Below.refl _ _ | exact HB.out | refine below_trans ?_ (below_alloc _ _) | refine below_trans ?_ (below_drew1 _) | refine below_trans ?_ (below_drewN _ _) | refine below_sc ?_ (by first | exact Nat.le_refl _ | (simp; done) | (simp; omega))))).r).mono ?_; rintro e w3 ⟨v3, rfl, hown3, hb3⟩; obtain ⟨g3, c3, hv3, hc3⟩ := VC.out hown3; subst hv3; have HB := Lib.hid (below_trans (w := w1) (by repeat (with_reducible first | exact Below.refl _ _ | exact HB.out | refine below_trans ?_ (below_alloc _ _) | refine below_trans ?_ (below_drew1 _) | refine below_trans ?_ (below_drewN _ _) | refine below_sc ?_ (by first | exact Nat.le_refl _ | (simp; done) | (simp; omega)))) hb3); clear hown3 hb3)
      | (go_at_call 15; refine (B3.out _ (HP.out.below (by repeat (with_reducible first | exact Below.refl _ _ | exact HB.out | refine below_trans ?_ (below_alloc _ _) | refine below_trans ?_ (below_drew1 _) | refine below_trans ?_ (below_drewN _ _) | refine below_sc ?_ (by first | exact Nat.le_refl _ | (simp; done) | (simp; omega))))).r).mono ?_; rintro e w3 ⟨v3, rfl, hown3, hb3⟩; obtain ⟨g3, c3, hv3, hc3⟩ := VC.out hown3; subst hv3; have HB := Lib.hid (below_trans (w := w1) (by repeat (with_reducible first | exact Below.refl _ _ | exact HB.out | refine below_trans ?_ (below_alloc _ _) | refine below_trans ?_ (below_drew1 _) | refine below_trans ?_ (below_drewN _ _) | refine below_sc ?_ (by first | exact Nat.le_refl _ | (simp; done) | (simp; omega)))) hb3); clear hown3 hb3)
      | (go_at_call 16; refine (B4.out _ (HP.out.below (by repeat (with_reducible first | exact Below.refl _ _ | exact HB.out | refine below_trans ?_ (below_alloc _ _) | refine below_trans ?_ (below_drew1 _) | refine below_trans ?_ (below_drewN _ _) | refine below_sc ?_ (by first | exact Nat.le_refl _ | (simp; done) | (simp; omega))))).r).mono ?_; rintro e w3 ⟨v3, rfl, hown3, hb3⟩; obtain ⟨g3, c3, hv3, hc3⟩ := VC.out hown3; subst hv3; have HB := Lib.hid (below_trans (w := w1) (by repeat (with_reducible first | exact Below.refl _ _ | exact HB.out | refine below_trans ?_ (below_alloc _ _) | refine below_trans ?_ (below_drew1 _) | refine below_trans ?_ (below_drewN _ _) | refine below_sc ?_ (by first | exact Nat.le_refl _ | (simp; done) | (simp; omega)))) hb3); clear hown3 hb3)
      | (go_at_call 17; refine (HSM.out _ (HP.out.below (by repeat (with_reducible first | exact Below.refl _ _ | exact HB.out | refine below_trans ?_ (below_alloc _ _) | refine below_trans ?_ (below_drew1 _) | refine below_trans ?_ (below_drewN _ _) | refine below_sc ?_ (by first | exact Nat.le_refl _ | (simp; done) | (simp; omega)))))).mono ?_; rintro e w4 ⟨rfl, hb4⟩; have HB := Lib.hid (below_trans (w := w1) (by repeat (with_reducible first | exact Below.refl _ _ | exact HB.out | refine below_trans ?_ (below_alloc _ _) | refine below_trans ?_ (below_drew1 _) | refine below_trans ?_ (below_drewN _ _) | refine below_sc ?_ (by first | exact Nat.le_refl _ | (simp; done) | (simp; omega)))) hb4); clear hb4)
      | (go_at_call 12; refine (heads06_any _).mono ?_; rintro e w10 ⟨rfl, hb10⟩; have HB := Lib.hid (below_trans (w := w1) (by repeat (with_reducible first | exact Below.refl _ _ | exact HB.out | refine below_trans ?_ (below_alloc _ _) | refine below_trans ?_ (below_drew1 _) | refine below_trans ?_ (below_drewN _ _) | refine below_sc ?_ (by first | exact Nat.le_refl _ | (simp; done) | (simp; omega)))) hb10); clear hb10))
    go_ret
    exact ⟨rfl, HX.out.trans (HB.out.mono HX.out.size)⟩
  · have e1 : weightT rows id = (0, 31) := by unfold weightT; rw [if_neg hb]
    have e2 : sizeT rows id = (0, 31) := by unfold sizeT; rw [if_neg hb]
    have e3 : depthT rows id = (0, 31) := by unfold depthT; rw [if_neg hb]
    have e4 : gradeT rows id = (0, 31) := by unfold gradeT; rw [if_neg hb]
    have hb' : hasB rows.length id = false := by simpa using hb
    rw [e2] at A1; rw [e3] at A2; rw [e1] at A3; rw [e4] at A4; rw [hb'] at A5
    clear e1 e2 e3 e4 hb hb' ok
    go_wp2_with (first
      | (go_at_call 11; refine (num06_any _ _).mono ?_; rintro e w' ⟨rfl, rfl⟩)
      | (go_at_call 6; refine (A1.out _ (HP.out.below (by repeat (with_reducible first | exact Below.refl _ _ | exact HB.out | refine below_trans ?_ (below_alloc _ _) | refine below_trans ?_ (below_drew1 _) | refine below_trans ?_ (below_drewN _ _) | refine below_sc ?_ (by first | exact Nat.le_refl _ | (simp; done) | (simp; omega))))).t).mono ?_; rintro e w2 ⟨rfl, hb2⟩; have HB := Lib.hid (below_trans (w := w1) (by repeat (with_reducible first | exact Below.refl _ _ | exact HB.out | refine below_trans ?_ (below_alloc _ _) | refine below_trans ?_ (below_drew1 _) | refine below_trans ?_ (below_drewN _ _) | refine below_sc ?_ (by first | exact Nat.le_refl _ | (simp; done) | (simp; omega)))) hb2); clear hb2)
      | (go_at_call 7; refine (A2.out _ (HP.out.below (by repeat (with_reducible first | exact Below.refl _ _ | exact HB.out | refine below_trans ?_ (below_alloc _ _) | refine below_trans ?_ (below_drew1 _) | refine below_trans ?_ (below_drewN _ _) | refine below_sc ?_ (by first | exact Nat.le_refl _ | (simp; done) | (simp; omega))))).t).mono ?_; rintro e w2 ⟨rfl, hb2⟩; have HB := Lib.hid (below_trans (w := w1) (by repeat (with_reducible first | exact Below.refl _ _ | exact HB.out | refine below_trans ?_ (below_alloc _ _) | refine below_trans ?_ (below_drew1 _) | refine below_trans ?_ (below_drewN _ _) | refine below_sc ?_ (by first | exact Nat.le_refl _ | (simp; done) | (simp; omega)))) hb2); clear hb2)
      | (go_at_call 8; refine (A3.out _ (HP.out.below (by repeat (with_reducible first | exact Below.refl _ _ | exact HB.out | refine below_trans ?_ (below_alloc _ _) | refine below_trans ?_ (below_drew1 _) | refine below_trans ?_ (below_drewN _ _) | refine below_sc ?_ (by first | exact Nat.le_refl _ | (simp; done) | (simp; omega))))).t).mono ?_; rintro e w2 ⟨rfl, hb2⟩; have HB := Lib.hid (below_trans (w := w1) (by repeat (with_reducible first | exact Below.refl _ _ | exact HB.out | refine below_trans ?_ (below_alloc _ _) | refine below_trans ?_ (below_drew1 _) | refine below_trans ?_ (below_drewN _ _) | refine below_sc ?_ (by first | exact Nat.le_refl _ | (simp; done) | (simp; omega)))) hb2); clear hb2)
      | (go_at_call 9; refine (A4.out _ (HP.out.below (by repeat (with_reducible first | exact Below.refl _ _ | exact HB.out | refine below_trans ?_ (below_alloc _ _) | refine below_trans ?_ (below_drew1 _) | refine below_trans ?_ (below_drewN _ _) | refine below_sc ?_ (by first | exact Nat.le_refl _ | (simp; done) | (simp; omega))))).t).mono ?_; rintro e w2 ⟨rfl, hb2⟩; have HB := Lib.hid (below_trans (w := w1) (by repeat (with_reducible first | exact Below.refl _ _ | exact HB.out | refine below_trans ?_ (below_alloc _ _) | refine below_trans ?_ (below_drew1 _) | refine below_trans ?_ (below_drewN _ _) | refine below_sc ?_ (by first | exact Nat.le_refl _ | (simp; done) | (simp; omega)))) hb2); clear hb2)
      | (go_at_call 10; refine (A5.out _ (HP.out.below (by repeat (with_reducible first | exact Below.refl _ _ | exact HB.out | refine below_trans ?_ (below_alloc _ _) | refine below_trans ?_ (below_drew1 _) | refine below_trans ?_ (below_drewN _ _) | refine below_sc ?_ (by first | exact Nat.le_refl _ | (simp; done) | (simp; omega))))).r).mono ?_; rintro e w' ⟨rfl, rfl⟩)
      | (go_at_call 12; refine (heads06_any _).mono ?_; rintro e w10 ⟨rfl, hb10⟩; have HB := Lib.hid (below_trans (w := w1) (by repeat (with_reducible first | exact Below.refl _ _ | exact HB.out | refine below_trans ?_ (below_alloc _ _) | refine below_trans ?_ (below_drew1 _) | refine below_trans ?_ (below_drewN _ _) | refine below_sc ?_ (by first | exact Nat.le_refl _ | (simp; done) | (simp; omega)))) hb10); clear hb10))
    go_ret
    exact ⟨rfl, HX.out.trans (HB.out.mono HX.out.size)⟩

end Go.Dk

