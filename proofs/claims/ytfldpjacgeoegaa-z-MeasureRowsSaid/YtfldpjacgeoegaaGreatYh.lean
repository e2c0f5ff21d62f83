/- Size, Depth, Weight, Grade of a living table. -/
import Derived.Test.YtfldpjacgeoegaaGreatYg
namespace Go.Dk
open Go.RowKit Go.Maps Go.MapKept
open Go.Proofs hiding intOf

theorem two_kind {kd : Int} (h : 1 ≤ kd ∧ kd ≤ 5) : (decide (kd = 1) || decide (kd = 2)) = decide (kd < 3) := by
  rw [Bool.eq_iff_iff]; simp; omega
theorem kind_split {kd : Int} (h : 1 ≤ kd ∧ kd ≤ 5) : (kd < 3 ∧ (decide (kd = 1) || decide (kd = 2)) = true) ∨ (3 ≤ kd ∧ (decide (kd = 1) || decide (kd = 2)) = false) := by
  rw [two_kind h]
  by_cases h3 : kd < 3
  · exact .inl ⟨h3, by simpa using h3⟩
  · exact .inr ⟨by omega, by simpa using h3⟩
theorem single_yes (w : World) (n : ND) (h : (decide (n.kind = 1) || decide (n.kind = 2)) = true) : Calls Tryz.prog 27 #[.agg #[.int .i64 n.kind, .string n.name, .int .i64 n.l, .int .i64 n.r]] w fun e w' => e = .returned (.bool true) ∧ Below w.heap.size w w' := by
  have := single_any w n.kind n.l n.r n.name
  rw [h] at this; exact this
theorem single_none (w : World) (n : ND) (h : (decide (n.kind = 1) || decide (n.kind = 2)) = false) : Calls Tryz.prog 27 #[.agg #[.int .i64 n.kind, .string n.name, .int .i64 n.l, .int .i64 n.r]] w fun e w' => e = .returned (.bool false) ∧ Below w.heap.size w w' := by
  have := single_any w n.kind n.l n.r n.name
  rw [h] at this; exact this

theorem rd_three (w : World) (x y z : Int) (e : TypeId) : Rd (w.alloc (.cells #[.int .i64 x, .int .i64 y, .int .i64 z] e)) (.slice (some ⟨w.heap.size, 0, none⟩) 3 3) 3 1 (ints [x, y, z]) := rd_lit w _ e rfl rfl
theorem bd3 {x l r : Int} (hx : 0 ≤ x ∧ x ≤ MC) (hl : 0 ≤ l ∧ l ≤ MC) (hr : 0 ≤ r ∧ r ≤ MC) : ∀ z ∈ [x, l, r], 0 ≤ z ∧ z ≤ MC := by
  intro z hz
  simp only [List.mem_cons, List.not_mem_nil, or_false] at hz
  rcases hz with rfl | rfl | rfl
  · exact hx
  · exact hl
  · exact hr

set_option maxRecDepth 100000 in
theorem size_reckons : Reckons 26 sizeOf := by
  intro w n l r hk hl hr
  obtain ⟨kd, nm, a, b⟩ := n
  have HL := Lib.hid hl; have HR := Lib.hid hr
  have HX : Hid (Boxed (w.alloc (.cells #[.int .i64 kd, .string nm, .int .i64 a, .int .i64 b] 51)) w.heap.size ⟨kd, nm, a, b⟩) := boxed_new w ⟨kd, nm, a, b⟩ _
  unfold MC at hl hr
  unfold ND.val
  rcases kind_split hk with ⟨h3, hs⟩ | ⟨h3, hs⟩
  · have HS := Lib.hid hs
    have HV : Hid (sizeOf ⟨kd, nm, a, b⟩ l r = 1) := by unfold Hid sizeOf; rw [if_pos h3]
    clear hs hk h3
    go_enter Tryz.func26, Tryz.ntmps26
    go_wp2_with (first | (go_at_call 27; refine (single_yes _ ⟨kd, nm, a, b⟩ HS.out).mono ?_; rintro e w1 ⟨rfl, hb1⟩; obtain ⟨c0, _, _, _⟩ := HX.out.below hb1; have HB := Lib.hid (below_trans (w := w) (by repeat (with_reducible first | exact Below.refl _ _ | exact HB.out | refine below_trans ?_ (below_alloc _ _) | refine below_trans ?_ (below_drew1 _) | refine below_trans ?_ (below_drewN _ _) | refine below_sc ?_ (by first | exact Nat.le_refl _ | (simp; done) | (simp; omega)))) hb1); clear hb1) | fail)
    go_ret
    exact ⟨ret_int (by rw [HV.out]), (by repeat (with_reducible first | exact Below.refl _ _ | exact HB.out | refine below_trans ?_ (below_alloc _ _) | refine below_trans ?_ (below_drew1 _) | refine below_trans ?_ (below_drewN _ _) | refine below_sc ?_ (by first | exact Nat.le_refl _ | (simp; done) | (simp; omega))))⟩
  · have HS := Lib.hid hs
    have h3 : 3 ≤ kd := h3
    clear hs
    have HV : Hid (sizeOf ⟨kd, nm, a, b⟩ l r = mostL [1, l, r] 0) := by unfold Hid; rw [size_two h3, most3 1 l r (by unfold MC; omega) HL.out HR.out]
    clear hk h3
    go_enter Tryz.func26, Tryz.ntmps26
    go_wp2_with (first | (go_at_call 27; refine (single_none _ ⟨_, nm, a, b⟩ HS.out).mono ?_; rintro e w1 ⟨rfl, hb1⟩; obtain ⟨c0, _, _, _⟩ := HX.out.below hb1; have HB := Lib.hid (below_trans (w := w) (by repeat (with_reducible first | exact Below.refl _ _ | exact HB.out | refine below_trans ?_ (below_alloc _ _) | refine below_trans ?_ (below_drew1 _) | refine below_trans ?_ (below_drewN _ _) | refine below_sc ?_ (by first | exact Nat.le_refl _ | (simp; done) | (simp; omega)))) hb1); clear hb1) | (go_at_call 28; refine (most_any _ _ 3 [1, l, r] (by unfold maxLen; omega) (rd_three _ 1 l r _) (bd3 (by unfold MC; omega) HL.out HR.out)).mono ?_; rintro e w2 ⟨rfl, rfl⟩) | fail)
    go_ret
    exact ⟨ret_int (by rw [HV.out]), (by repeat (with_reducible first | exact Below.refl _ _ | exact HB.out | refine below_trans ?_ (below_alloc _ _) | refine below_trans ?_ (below_drew1 _) | refine below_trans ?_ (below_drewN _ _) | refine below_sc ?_ (by first | exact Nat.le_refl _ | (simp; done) | (simp; omega))))⟩

set_option maxRecDepth 100000 in
theorem depth_reckons : Reckons 29 depthOf := by
  intro w n l r hk hl hr
  obtain ⟨kd, nm, a, b⟩ := n
  have HL := Lib.hid hl; have HR := Lib.hid hr
  have HX : Hid (Boxed (w.alloc (.cells #[.int .i64 kd, .string nm, .int .i64 a, .int .i64 b] 51)) w.heap.size ⟨kd, nm, a, b⟩) := boxed_new w ⟨kd, nm, a, b⟩ _
  unfold MC at hl hr
  unfold ND.val
  rcases kind_split hk with ⟨h3, hs⟩ | ⟨h3, hs⟩
  · have HS := Lib.hid hs
    have HV : Hid (depthOf ⟨kd, nm, a, b⟩ l r = 0) := by unfold Hid depthOf; rw [if_pos h3]
    clear hs hk h3
    go_enter Tryz.func29, Tryz.ntmps29
    go_wp2_with (first | (go_at_call 27; refine (single_yes _ ⟨kd, nm, a, b⟩ HS.out).mono ?_; rintro e w1 ⟨rfl, hb1⟩; obtain ⟨c0, _, _, _⟩ := HX.out.below hb1; have HB := Lib.hid (below_trans (w := w) (by repeat (with_reducible first | exact Below.refl _ _ | exact HB.out | refine below_trans ?_ (below_alloc _ _) | refine below_trans ?_ (below_drew1 _) | refine below_trans ?_ (below_drewN _ _) | refine below_sc ?_ (by first | exact Nat.le_refl _ | (simp; done) | (simp; omega)))) hb1); clear hb1) | fail)
    go_ret
    exact ⟨ret_int (by rw [HV.out]), (by repeat (with_reducible first | exact Below.refl _ _ | exact HB.out | refine below_trans ?_ (below_alloc _ _) | refine below_trans ?_ (below_drew1 _) | refine below_trans ?_ (below_drewN _ _) | refine below_sc ?_ (by first | exact Nat.le_refl _ | (simp; done) | (simp; omega))))⟩
  · have HS := Lib.hid hs
    have h3 : 3 ≤ kd := h3
    clear hs
    have HV : Hid (depthOf ⟨kd, nm, a, b⟩ l r = 1 + max l r) := by unfold Hid depthOf; rw [if_neg (show ¬ kd < 3 by omega)]
    clear hk h3
    go_enter Tryz.func29, Tryz.ntmps29
    go_wp2_with (first | (go_at_call 27; refine (single_none _ ⟨_, nm, a, b⟩ HS.out).mono ?_; rintro e w1 ⟨rfl, hb1⟩; obtain ⟨c0, _, _, _⟩ := HX.out.below hb1; have HB := Lib.hid (below_trans (w := w) (by repeat (with_reducible first | exact Below.refl _ _ | exact HB.out | refine below_trans ?_ (below_alloc _ _) | refine below_trans ?_ (below_drew1 _) | refine below_trans ?_ (below_drewN _ _) | refine below_sc ?_ (by first | exact Nat.le_refl _ | (simp; done) | (simp; omega)))) hb1); clear hb1) | fail)
    go_ret
    exact ⟨ret_int (by rw [HV.out]), (by repeat (with_reducible first | exact Below.refl _ _ | exact HB.out | refine below_trans ?_ (below_alloc _ _) | refine below_trans ?_ (below_drew1 _) | refine below_trans ?_ (below_drewN _ _) | refine below_sc ?_ (by first | exact Nat.le_refl _ | (simp; done) | (simp; omega))))⟩

set_option maxRecDepth 100000 in
theorem weight_reckons : Reckons 30 weightOf := by
  intro w n l r hk hl hr
  obtain ⟨kd, nm, a, b⟩ := n
  have HL := Lib.hid hl; have HR := Lib.hid hr
  have HX : Hid (Boxed (w.alloc (.cells #[.int .i64 kd, .string nm, .int .i64 a, .int .i64 b] 51)) w.heap.size ⟨kd, nm, a, b⟩) := boxed_new w ⟨kd, nm, a, b⟩ _
  unfold MC at hl hr
  unfold ND.val
  rcases kind_split hk with ⟨h3, hs⟩ | ⟨h3, hs⟩
  · have HS := Lib.hid hs
    have HV : Hid (weightOf ⟨kd, nm, a, b⟩ l r = 1) := by unfold Hid weightOf; rw [if_pos h3]
    clear hs hk h3
    go_enter Tryz.func30, Tryz.ntmps30
    go_wp2_with (first | (go_at_call 27; refine (single_yes _ ⟨kd, nm, a, b⟩ HS.out).mono ?_; rintro e w1 ⟨rfl, hb1⟩; obtain ⟨c0, _, _, _⟩ := HX.out.below hb1; have HB := Lib.hid (below_trans (w := w) (by repeat (with_reducible first | exact Below.refl _ _ | exact HB.out | refine below_trans ?_ (below_alloc _ _) | refine below_trans ?_ (below_drew1 _) | refine below_trans ?_ (below_drewN _ _) | refine below_sc ?_ (by first | exact Nat.le_refl _ | (simp; done) | (simp; omega)))) hb1); clear hb1) | fail)
    go_ret
    exact ⟨ret_int (by rw [HV.out]), (by repeat (with_reducible first | exact Below.refl _ _ | exact HB.out | refine below_trans ?_ (below_alloc _ _) | refine below_trans ?_ (below_drew1 _) | refine below_trans ?_ (below_drewN _ _) | refine below_sc ?_ (by first | exact Nat.le_refl _ | (simp; done) | (simp; omega))))⟩
  · have HS := Lib.hid hs
    have h3 : 3 ≤ kd := h3
    clear hs
    by_cases h33 : kd = 3
    · have HV : Hid (weightOf ⟨kd, nm, a, b⟩ l r = mostL [2, l, r] 0) := by unfold Hid; rw [weight_two h3, if_pos h33, most3 2 l r (by unfold MC; omega) HL.out HR.out]
      clear hk h3
      subst h33
      go_enter Tryz.func30, Tryz.ntmps30
      go_wp2_with (first | (go_at_call 27; refine (single_none _ ⟨_, nm, a, b⟩ HS.out).mono ?_; rintro e w1 ⟨rfl, hb1⟩; obtain ⟨c0, _, _, _⟩ := HX.out.below hb1; have HB := Lib.hid (below_trans (w := w) (by repeat (with_reducible first | exact Below.refl _ _ | exact HB.out | refine below_trans ?_ (below_alloc _ _) | refine below_trans ?_ (below_drew1 _) | refine below_trans ?_ (below_drewN _ _) | refine below_sc ?_ (by first | exact Nat.le_refl _ | (simp; done) | (simp; omega)))) hb1); clear hb1) | (go_at_call 28; refine (most_any _ _ 3 [2, l, r] (by unfold maxLen; omega) (rd_three _ 2 l r _) (bd3 (by unfold MC; omega) HL.out HR.out)).mono ?_; rintro e w2 ⟨rfl, rfl⟩) | fail)
      go_ret
      exact ⟨ret_int (by rw [HV.out]), (by repeat (with_reducible first | exact Below.refl _ _ | exact HB.out | refine below_trans ?_ (below_alloc _ _) | refine below_trans ?_ (below_drew1 _) | refine below_trans ?_ (below_drewN _ _) | refine below_sc ?_ (by first | exact Nat.le_refl _ | (simp; done) | (simp; omega))))⟩
    · have HV : Hid (weightOf ⟨kd, nm, a, b⟩ l r = mostL [1, l, r] 0) := by unfold Hid; rw [weight_two h3, if_neg h33, most3 1 l r (by unfold MC; omega) HL.out HR.out]
      clear hk h3
      go_enter Tryz.func30, Tryz.ntmps30
      go_wp2_with (first | (go_at_call 27; refine (single_none _ ⟨_, nm, a, b⟩ HS.out).mono ?_; rintro e w1 ⟨rfl, hb1⟩; obtain ⟨c0, _, _, _⟩ := HX.out.below hb1; have HB := Lib.hid (below_trans (w := w) (by repeat (with_reducible first | exact Below.refl _ _ | exact HB.out | refine below_trans ?_ (below_alloc _ _) | refine below_trans ?_ (below_drew1 _) | refine below_trans ?_ (below_drewN _ _) | refine below_sc ?_ (by first | exact Nat.le_refl _ | (simp; done) | (simp; omega)))) hb1); clear hb1) | (go_at_call 28; refine (most_any _ _ 3 [1, l, r] (by unfold maxLen; omega) (rd_three _ 1 l r _) (bd3 (by unfold MC; omega) HL.out HR.out)).mono ?_; rintro e w2 ⟨rfl, rfl⟩) | fail)
      go_ret
      exact ⟨ret_int (by rw [HV.out]), (by repeat (with_reducible first | exact Below.refl _ _ | exact HB.out | refine below_trans ?_ (below_alloc _ _) | refine below_trans ?_ (below_drew1 _) | refine below_trans ?_ (below_drewN _ _) | refine below_sc ?_ (by first | exact Nat.le_refl _ | (simp; done) | (simp; omega))))⟩

set_option maxRecDepth 100000 in
theorem grade_reckons : Reckons 31 gradeOf := by
  intro w n l r hk hl hr
  obtain ⟨kd, nm, a, b⟩ := n
  have HL := Lib.hid hl; have HR := Lib.hid hr
  have HX : Hid (Boxed (w.alloc (.cells #[.int .i64 kd, .string nm, .int .i64 a, .int .i64 b] 51)) w.heap.size ⟨kd, nm, a, b⟩) := boxed_new w ⟨kd, nm, a, b⟩ _
  unfold MC at hl hr
  unfold ND.val
  rcases kind_split hk with ⟨h3, hs⟩ | ⟨h3, hs⟩
  · have HS := Lib.hid hs
    have HV : Hid (gradeOf ⟨kd, nm, a, b⟩ l r = 0) := by unfold Hid gradeOf; rw [if_pos h3]
    clear hs hk h3
    go_enter Tryz.func31, Tryz.ntmps31
    go_wp2_with (first | (go_at_call 27; refine (single_yes _ ⟨kd, nm, a, b⟩ HS.out).mono ?_; rintro e w1 ⟨rfl, hb1⟩; obtain ⟨c0, _, _, _⟩ := HX.out.below hb1; have HB := Lib.hid (below_trans (w := w) (by repeat (with_reducible first | exact Below.refl _ _ | exact HB.out | refine below_trans ?_ (below_alloc _ _) | refine below_trans ?_ (below_drew1 _) | refine below_trans ?_ (below_drewN _ _) | refine below_sc ?_ (by first | exact Nat.le_refl _ | (simp; done) | (simp; omega)))) hb1); clear hb1) | fail)
    go_ret
    exact ⟨ret_int (by rw [HV.out]), (by repeat (with_reducible first | exact Below.refl _ _ | exact HB.out | refine below_trans ?_ (below_alloc _ _) | refine below_trans ?_ (below_drew1 _) | refine below_trans ?_ (below_drewN _ _) | refine below_sc ?_ (by first | exact Nat.le_refl _ | (simp; done) | (simp; omega))))⟩
  · have HS := Lib.hid hs
    have h3 : 3 ≤ kd := h3
    clear hs
    by_cases h55 : kd = 5
    · have HV : Hid (gradeOf ⟨kd, nm, a, b⟩ l r = max (1 + l) r) := by unfold Hid gradeOf; rw [if_neg (show ¬ kd < 3 by omega), if_pos h55]
      clear hk h3
      subst h55
      go_enter Tryz.func31, Tryz.ntmps31
      go_wp2_with (first | (go_at_call 27; refine (single_none _ ⟨_, nm, a, b⟩ HS.out).mono ?_; rintro e w1 ⟨rfl, hb1⟩; obtain ⟨c0, _, _, _⟩ := HX.out.below hb1; have HB := Lib.hid (below_trans (w := w) (by repeat (with_reducible first | exact Below.refl _ _ | exact HB.out | refine below_trans ?_ (below_alloc _ _) | refine below_trans ?_ (below_drew1 _) | refine below_trans ?_ (below_drewN _ _) | refine below_sc ?_ (by first | exact Nat.le_refl _ | (simp; done) | (simp; omega)))) hb1); clear hb1) | fail)
      go_ret
      exact ⟨ret_int (by rw [HV.out]), (by repeat (with_reducible first | exact Below.refl _ _ | exact HB.out | refine below_trans ?_ (below_alloc _ _) | refine below_trans ?_ (below_drew1 _) | refine below_trans ?_ (below_drewN _ _) | refine below_sc ?_ (by first | exact Nat.le_refl _ | (simp; done) | (simp; omega))))⟩
    · have HV : Hid (gradeOf ⟨kd, nm, a, b⟩ l r = max l r) := by unfold Hid gradeOf; rw [if_neg (show ¬ kd < 3 by omega), if_neg h55]
      clear hk h3
      go_enter Tryz.func31, Tryz.ntmps31
      go_wp2_with (first | (go_at_call 27; refine (single_none _ ⟨_, nm, a, b⟩ HS.out).mono ?_; rintro e w1 ⟨rfl, hb1⟩; obtain ⟨c0, _, _, _⟩ := HX.out.below hb1; have HB := Lib.hid (below_trans (w := w) (by repeat (with_reducible first | exact Below.refl _ _ | exact HB.out | refine below_trans ?_ (below_alloc _ _) | refine below_trans ?_ (below_drew1 _) | refine below_trans ?_ (below_drewN _ _) | refine below_sc ?_ (by first | exact Nat.le_refl _ | (simp; done) | (simp; omega)))) hb1); clear hb1) | fail)
      go_ret
      exact ⟨ret_int (by rw [HV.out]), (by repeat (with_reducible first | exact Below.refl _ _ | exact HB.out | refine below_trans ?_ (below_alloc _ _) | refine below_trans ?_ (below_drew1 _) | refine below_trans ?_ (below_drewN _ _) | refine below_sc ?_ (by first | exact Nat.le_refl _ | (simp; done) | (simp; omega))))⟩

/-- What a measure tells of a number. -/
def sizeT (rows : List ND) (i : Int) : Int × Int := if hasB rows.length i = true then (val sizeOf rows i.toNat, 0) else (0, 31)
set_option maxRecDepth 100000 in
theorem size_any (k : Nat) (ow : Own) (w : World) (t : Value) (rows : List ND) (h : Tab k ow w t rows) (i : Int) :
    Calls Tryz.prog 6 #[t, .int .i64 i] w fun e w' => e = .returned (.tuple #[.int .i64 (sizeT rows i).1, .int .i64 (sizeT rows i).2]) ∧ Below w.heap.size w w' := by
  have hmf : ∀ (fn : Fn) (first cap : Array Value) (w : World), (Instr.makeFunc fn first cap).run Tryz.prog w = .ok (.func fn first cap) w := fun _ _ _ _ => rfl
  have H := Lib.hid h
  cases hb : hasB rows.length i with
  | false =>
    have HV : Hid (sizeT rows i = (0, 31)) := by unfold Hid sizeT; rw [if_neg (by simp [hb])]
    rw [HV.out]
    have HBB := Lib.hid hb
    clear h hb
    go_enter Tryz.func6, Tryz.ntmps6
    go_wp2_with (go_at_call 25; refine (fold_no k ow _ _ _ (H.out.below (by repeat (with_reducible first | exact Below.refl _ _ | exact HB.out | refine below_trans ?_ (below_alloc _ _) | refine below_trans ?_ (below_drew1 _) | refine below_trans ?_ (below_drewN _ _) | refine below_sc ?_ (by first | exact Nat.le_refl _ | (simp; done) | (simp; omega))))) _ _ HBB.out).mono ?_; rintro e w1 ⟨rfl, hb1⟩; have HB := Lib.hid (below_trans (w := w) (by repeat (with_reducible first | exact Below.refl _ _ | exact HB.out | refine below_trans ?_ (below_alloc _ _) | refine below_trans ?_ (below_drew1 _) | refine below_trans ?_ (below_drewN _ _) | refine below_sc ?_ (by first | exact Nat.le_refl _ | (simp; done) | (simp; omega)))) hb1); clear hb1)
    go_ret2
    exact ⟨rfl, (by repeat (with_reducible first | exact Below.refl _ _ | exact HB.out | refine below_trans ?_ (below_alloc _ _) | refine below_trans ?_ (below_drew1 _) | refine below_trans ?_ (below_drewN _ _) | refine below_sc ?_ (by first | exact Nat.le_refl _ | (simp; done) | (simp; omega))))⟩
  | true =>
    have HV : Hid (sizeT rows i = (val sizeOf rows i.toNat, 0)) := by unfold Hid sizeT; rw [if_pos hb]
    rw [HV.out]
    simp only [hasB, Bool.and_eq_true, decide_eq_true_eq] at hb
    obtain ⟨x, rfl⟩ := Int.eq_ofNat_of_zero_le hb.1
    have hx : x < rows.length := by omega
    have HBD : Hid (∀ i, i < rows.length → 0 ≤ val sizeOf rows i ∧ val sizeOf rows i ≤ MC) := fun i hi => by have := size_bd h.ok i hi; omega
    clear h hb
    go_enter Tryz.func6, Tryz.ntmps6
    go_wp2_with (go_at_call 25; refine (fold_Size k ow _ _ _ (H.out.below (by repeat (with_reducible first | exact Below.refl _ _ | exact HB.out | refine below_trans ?_ (below_alloc _ _) | refine below_trans ?_ (below_drew1 _) | refine below_trans ?_ (below_drewN _ _) | refine below_sc ?_ (by first | exact Nat.le_refl _ | (simp; done) | (simp; omega))))) sizeOf size_reckons size_one HBD.out x hx).mono ?_; rintro e w1 ⟨rfl, hb1⟩; have HB := Lib.hid (below_trans (w := w) (by repeat (with_reducible first | exact Below.refl _ _ | exact HB.out | refine below_trans ?_ (below_alloc _ _) | refine below_trans ?_ (below_drew1 _) | refine below_trans ?_ (below_drewN _ _) | refine below_sc ?_ (by first | exact Nat.le_refl _ | (simp; done) | (simp; omega)))) hb1); clear hb1)
    go_ret2
    exact ⟨rfl, (by repeat (with_reducible first | exact Below.refl _ _ | exact HB.out | refine below_trans ?_ (below_alloc _ _) | refine below_trans ?_ (below_drew1 _) | refine below_trans ?_ (below_drewN _ _) | refine below_sc ?_ (by first | exact Nat.le_refl _ | (simp; done) | (simp; omega))))⟩

/-- What a measure tells of a number. -/
def depthT (rows : List ND) (i : Int) : Int × Int := if hasB rows.length i = true then (val depthOf rows i.toNat, 0) else (0, 31)
set_option maxRecDepth 100000 in
theorem depth_any (k : Nat) (ow : Own) (w : World) (t : Value) (rows : List ND) (h : Tab k ow w t rows) (i : Int) :
    Calls Tryz.prog 7 #[t, .int .i64 i] w fun e w' => e = .returned (.tuple #[.int .i64 (depthT rows i).1, .int .i64 (depthT rows i).2]) ∧ Below w.heap.size w w' := by
  have hmf : ∀ (fn : Fn) (first cap : Array Value) (w : World), (Instr.makeFunc fn first cap).run Tryz.prog w = .ok (.func fn first cap) w := fun _ _ _ _ => rfl
  have H := Lib.hid h
  cases hb : hasB rows.length i with
  | false =>
    have HV : Hid (depthT rows i = (0, 31)) := by unfold Hid depthT; rw [if_neg (by simp [hb])]
    rw [HV.out]
    have HBB := Lib.hid hb
    clear h hb
    go_enter Tryz.func7, Tryz.ntmps7
    go_wp2_with (go_at_call 25; refine (fold_no k ow _ _ _ (H.out.below (by repeat (with_reducible first | exact Below.refl _ _ | exact HB.out | refine below_trans ?_ (below_alloc _ _) | refine below_trans ?_ (below_drew1 _) | refine below_trans ?_ (below_drewN _ _) | refine below_sc ?_ (by first | exact Nat.le_refl _ | (simp; done) | (simp; omega))))) _ _ HBB.out).mono ?_; rintro e w1 ⟨rfl, hb1⟩; have HB := Lib.hid (below_trans (w := w) (by repeat (with_reducible first | exact Below.refl _ _ | exact HB.out | refine below_trans ?_ (below_alloc _ _) | refine below_trans ?_ (below_drew1 _) | refine below_trans ?_ (below_drewN _ _) | refine below_sc ?_ (by first | exact Nat.le_refl _ | (simp; done) | (simp; omega)))) hb1); clear hb1)
    go_ret2
    exact ⟨rfl, (by repeat (with_reducible first | exact Below.refl _ _ | exact HB.out | refine below_trans ?_ (below_alloc _ _) | refine below_trans ?_ (below_drew1 _) | refine below_trans ?_ (below_drewN _ _) | refine below_sc ?_ (by first | exact Nat.le_refl _ | (simp; done) | (simp; omega))))⟩
  | true =>
    have HV : Hid (depthT rows i = (val depthOf rows i.toNat, 0)) := by unfold Hid depthT; rw [if_pos hb]
    rw [HV.out]
    simp only [hasB, Bool.and_eq_true, decide_eq_true_eq] at hb
    obtain ⟨x, rfl⟩ := Int.eq_ofNat_of_zero_le hb.1
    have hx : x < rows.length := by omega
    have HBD : Hid (∀ i, i < rows.length → 0 ≤ val depthOf rows i ∧ val depthOf rows i ≤ MC) := fun i hi => by have := depth_bd h.ok i hi; have := h.ok.le; unfold MC; omega
    clear h hb
    go_enter Tryz.func7, Tryz.ntmps7
    go_wp2_with (go_at_call 25; refine (fold_Depth k ow _ _ _ (H.out.below (by repeat (with_reducible first | exact Below.refl _ _ | exact HB.out | refine below_trans ?_ (below_alloc _ _) | refine below_trans ?_ (below_drew1 _) | refine below_trans ?_ (below_drewN _ _) | refine below_sc ?_ (by first | exact Nat.le_refl _ | (simp; done) | (simp; omega))))) depthOf depth_reckons depth_one HBD.out x hx).mono ?_; rintro e w1 ⟨rfl, hb1⟩; have HB := Lib.hid (below_trans (w := w) (by repeat (with_reducible first | exact Below.refl _ _ | exact HB.out | refine below_trans ?_ (below_alloc _ _) | refine below_trans ?_ (below_drew1 _) | refine below_trans ?_ (below_drewN _ _) | refine below_sc ?_ (by first | exact Nat.le_refl _ | (simp; done) | (simp; omega)))) hb1); clear hb1)
    go_ret2
    exact ⟨rfl, (by repeat (with_reducible first | exact Below.refl _ _ | exact HB.out | refine below_trans ?_ (below_alloc _ _) | refine below_trans ?_ (below_drew1 _) | refine below_trans ?_ (below_drewN _ _) | refine below_sc ?_ (by first | exact Nat.le_refl _ | (simp; done) | (simp; omega))))⟩

/-- What a measure tells of a number. -/
def weightT (rows : List ND) (i : Int) : Int × Int := if hasB rows.length i = true then (val weightOf rows i.toNat, 0) else (0, 31)
set_option maxRecDepth 100000 in
theorem weight_any (k : Nat) (ow : Own) (w : World) (t : Value) (rows : List ND) (h : Tab k ow w t rows) (i : Int) :
    Calls Tryz.prog 8 #[t, .int .i64 i] w fun e w' => e = .returned (.tuple #[.int .i64 (weightT rows i).1, .int .i64 (weightT rows i).2]) ∧ Below w.heap.size w w' := by
  have hmf : ∀ (fn : Fn) (first cap : Array Value) (w : World), (Instr.makeFunc fn first cap).run Tryz.prog w = .ok (.func fn first cap) w := fun _ _ _ _ => rfl
  have H := Lib.hid h
  cases hb : hasB rows.length i with
  | false =>
    have HV : Hid (weightT rows i = (0, 31)) := by unfold Hid weightT; rw [if_neg (by simp [hb])]
    rw [HV.out]
    have HBB := Lib.hid hb
    clear h hb
    go_enter Tryz.func8, Tryz.ntmps8
    go_wp2_with (go_at_call 25; refine (fold_no k ow _ _ _ (H.out.below (by repeat (with_reducible first | exact Below.refl _ _ | exact HB.out | refine below_trans ?_ (below_alloc _ _) | refine below_trans ?_ (below_drew1 _) | refine below_trans ?_ (below_drewN _ _) | refine below_sc ?_ (by first | exact Nat.le_refl _ | (simp; done) | (simp; omega))))) _ _ HBB.out).mono ?_; rintro e w1 ⟨rfl, hb1⟩; have HB := Lib.hid (below_trans (w := w) (by repeat (with_reducible first | exact Below.refl _ _ | exact HB.out | refine below_trans ?_ (below_alloc _ _) | refine below_trans ?_ (below_drew1 _) | refine below_trans ?_ (below_drewN _ _) | refine below_sc ?_ (by first | exact Nat.le_refl _ | (simp; done) | (simp; omega)))) hb1); clear hb1)
    go_ret2
    exact ⟨rfl, (by repeat (with_reducible first | exact Below.refl _ _ | exact HB.out | refine below_trans ?_ (below_alloc _ _) | refine below_trans ?_ (below_drew1 _) | refine below_trans ?_ (below_drewN _ _) | refine below_sc ?_ (by first | exact Nat.le_refl _ | (simp; done) | (simp; omega))))⟩
  | true =>
    have HV : Hid (weightT rows i = (val weightOf rows i.toNat, 0)) := by unfold Hid weightT; rw [if_pos hb]
    rw [HV.out]
    simp only [hasB, Bool.and_eq_true, decide_eq_true_eq] at hb
    obtain ⟨x, rfl⟩ := Int.eq_ofNat_of_zero_le hb.1
    have hx : x < rows.length := by omega
    have HBD : Hid (∀ i, i < rows.length → 0 ≤ val weightOf rows i ∧ val weightOf rows i ≤ MC) := fun i hi => by have := weight_bd h.ok i hi; omega
    clear h hb
    go_enter Tryz.func8, Tryz.ntmps8
    go_wp2_with (go_at_call 25; refine (fold_Weight k ow _ _ _ (H.out.below (by repeat (with_reducible first | exact Below.refl _ _ | exact HB.out | refine below_trans ?_ (below_alloc _ _) | refine below_trans ?_ (below_drew1 _) | refine below_trans ?_ (below_drewN _ _) | refine below_sc ?_ (by first | exact Nat.le_refl _ | (simp; done) | (simp; omega))))) weightOf weight_reckons weight_one HBD.out x hx).mono ?_; rintro e w1 ⟨rfl, hb1⟩; have HB := Lib.hid (below_trans (w := w) (by repeat (with_reducible first | exact Below.refl _ _ | exact HB.out | refine below_trans ?_ (below_alloc _ _) | refine below_trans ?_ (below_drew1 _) | refine below_trans ?_ (below_drewN _ _) | refine below_sc ?_ (by first | exact Nat.le_refl _ | (simp; done) | (simp; omega)))) hb1); clear hb1)
    go_ret2
    exact ⟨rfl, (by repeat (with_reducible first | exact Below.refl _ _ | exact HB.out | refine below_trans ?_ (below_alloc _ _) | refine below_trans ?_ (below_drew1 _) | refine below_trans ?_ (below_drewN _ _) | refine below_sc ?_ (by first | exact Nat.le_refl _ | (simp; done) | (simp; omega))))⟩

/-- What a measure tells of a number. -/
def gradeT (rows : List ND) (i : Int) : Int × Int := if hasB rows.length i = true then (val gradeOf rows i.toNat, 0) else (0, 31)
set_option maxRecDepth 100000 in
theorem grade_any (k : Nat) (ow : Own) (w : World) (t : Value) (rows : List ND) (h : Tab k ow w t rows) (i : Int) :
    Calls Tryz.prog 9 #[t, .int .i64 i] w fun e w' => e = .returned (.tuple #[.int .i64 (gradeT rows i).1, .int .i64 (gradeT rows i).2]) ∧ Below w.heap.size w w' := by
  have hmf : ∀ (fn : Fn) (first cap : Array Value) (w : World), (Instr.makeFunc fn first cap).run Tryz.prog w = .ok (.func fn first cap) w := fun _ _ _ _ => rfl
  have H := Lib.hid h
  cases hb : hasB rows.length i with
  | false =>
    have HV : Hid (gradeT rows i = (0, 31)) := by unfold Hid gradeT; rw [if_neg (by simp [hb])]
    rw [HV.out]
    have HBB := Lib.hid hb
    clear h hb
    go_enter Tryz.func9, Tryz.ntmps9
    go_wp2_with (go_at_call 25; refine (fold_no k ow _ _ _ (H.out.below (by repeat (with_reducible first | exact Below.refl _ _ | exact HB.out | refine below_trans ?_ (below_alloc _ _) | refine below_trans ?_ (below_drew1 _) | refine below_trans ?_ (below_drewN _ _) | refine below_sc ?_ (by first | exact Nat.le_refl _ | (simp; done) | (simp; omega))))) _ _ HBB.out).mono ?_; rintro e w1 ⟨rfl, hb1⟩; have HB := Lib.hid (below_trans (w := w) (by repeat (with_reducible first | exact Below.refl _ _ | exact HB.out | refine below_trans ?_ (below_alloc _ _) | refine below_trans ?_ (below_drew1 _) | refine below_trans ?_ (below_drewN _ _) | refine below_sc ?_ (by first | exact Nat.le_refl _ | (simp; done) | (simp; omega)))) hb1); clear hb1)
    go_ret2
    exact ⟨rfl, (by repeat (with_reducible first | exact Below.refl _ _ | exact HB.out | refine below_trans ?_ (below_alloc _ _) | refine below_trans ?_ (below_drew1 _) | refine below_trans ?_ (below_drewN _ _) | refine below_sc ?_ (by first | exact Nat.le_refl _ | (simp; done) | (simp; omega))))⟩
  | true =>
    have HV : Hid (gradeT rows i = (val gradeOf rows i.toNat, 0)) := by unfold Hid gradeT; rw [if_pos hb]
    rw [HV.out]
    simp only [hasB, Bool.and_eq_true, decide_eq_true_eq] at hb
    obtain ⟨x, rfl⟩ := Int.eq_ofNat_of_zero_le hb.1
    have hx : x < rows.length := by omega
    have HBD : Hid (∀ i, i < rows.length → 0 ≤ val gradeOf rows i ∧ val gradeOf rows i ≤ MC) := fun i hi => by have := grade_bd h.ok i hi; have := h.ok.le; unfold MC; omega
    clear h hb
    go_enter Tryz.func9, Tryz.ntmps9
    go_wp2_with (go_at_call 25; refine (fold_Grade k ow _ _ _ (H.out.below (by repeat (with_reducible first | exact Below.refl _ _ | exact HB.out | refine below_trans ?_ (below_alloc _ _) | refine below_trans ?_ (below_drew1 _) | refine below_trans ?_ (below_drewN _ _) | refine below_sc ?_ (by first | exact Nat.le_refl _ | (simp; done) | (simp; omega))))) gradeOf grade_reckons grade_one HBD.out x hx).mono ?_; rintro e w1 ⟨rfl, hb1⟩; have HB := Lib.hid (below_trans (w := w) (by repeat (with_reducible first | exact Below.refl _ _ | exact HB.out | refine below_trans ?_ (below_alloc _ _) | refine below_trans ?_ (below_drew1 _) | refine below_trans ?_ (below_drewN _ _) | refine below_sc ?_ (by first | exact Nat.le_refl _ | (simp; done) | (simp; omega)))) hb1); clear hb1)
    go_ret2
    exact ⟨rfl, (by repeat (with_reducible first | exact Below.refl _ _ | exact HB.out | refine below_trans ?_ (below_alloc _ _) | refine below_trans ?_ (below_drew1 _) | refine below_trans ?_ (below_drewN _ _) | refine below_sc ?_ (by first | exact Nat.le_refl _ | (simp; done) | (simp; omega))))⟩


end Go.Dk

