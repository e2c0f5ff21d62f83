/- Same and Like. -/
import Derived.Test.YtmlohibhoibgkaaEd
import Derived.Deep.RegionHeld3
namespace Go.Dk
open Go.RowKit Go.Maps Go.MapKept
open Go.Proofs hiding intOf

set_option maxRecDepth 100000 in
set_option maxHeartbeats 400000 in
theorem refSame_any (w : World) (v u : Value) (xs ys : List ND) (hm : xs.length ≤ maxLen) (hx : Rd w v xs.length 4 (nodeCells xs)) (hy : Rd w u ys.length 4 (nodeCells ys)) :
    Calls Try.prog 45 #[v, u] w fun e w' => e = .returned (.bool (decide (xs = ys))) ∧ Below w.heap.size w w' := by
  unfold maxLen at hm
  obtain ⟨a, c, rfl⟩ := hx.slice
  obtain ⟨a', c', rfl⟩ := hy.slice
  have HX := Lib.hid hx; have HY := Lib.hid hy
  clear hx hy
  by_cases hnm : xs.length = ys.length
  · have HNM := Lib.hid hnm
    have hb0 : ((xs.length : Int) != (ys.length : Int)) = false := by simp [hnm]
    clear hnm
    go_enter Try.func45, Try.ntmps45
    go_wp2
    go_loopw [5] (fun i W => ∃ k : Nat, k ≤ xs.length ∧ i = .int .i64 k ∧ xs.take k = ys.take k ∧ Below w.heap.size w W) (fun i _ => xs.length - (intOf i).toNat)
    case atStart => exact ⟨0, Nat.zero_le _, rfl, rfl, Below.refl _ _⟩
    case round =>
      obtain ⟨k, hk, rfl, ht, hb⟩ := hrel
      have HT := Lib.hid ht
      clear ht
      by_cases hlt : k < xs.length
      · have hlt' : k < ys.length := by rw [← HNM.out]; exact hlt
        obtain ⟨x, hxx⟩ : ∃ x, xs[k]? = some x := ⟨_, List.getElem?_eq_getElem hlt⟩
        obtain ⟨y, hyy⟩ : ∃ y, ys[k]? = some y := ⟨_, List.getElem?_eq_getElem hlt'⟩
        obtain ⟨b, o, c1, e1, d0, d1, d2, d3⟩ := nodes_at (HX.out.below hb) hxx
        obtain ⟨b', o', c1', e1', f0, f1, f2, f3⟩ := nodes_at (HY.out.below hb) hyy
        cases e1; cases e1'
        have hq := fun W => neNode W x y
        have HZ := Lib.hid hxx; have HZ' := Lib.hid hyy
        have hki : (k : Int) < (xs.length : Int) := by omega
        have hki' : (k : Int) < (ys.length : Int) := by omega
        clear hxx hyy
        by_cases hzz : x = y
        · have hd : decide (x = y) = true := by simp [hzz]
          have HZZ := Lib.hid hzz
          clear hzz
          go_wp2
          go_quiet (fail)
          go_wp2
          exact ⟨⟨k + 1, by omega, by go_num, by rw [List.take_add_one, List.take_add_one, HT.out, HZ.out, HZ'.out, HZZ.out], hb.trans ((below_drewN wr nq).mono hb.size)⟩, by simp [intOf]; omega⟩
        · have hd : decide (x = y) = false := by simp [hzz]
          have HNE : Hid (decide (xs = ys) = false) := by
            rw [Hid, decide_eq_false_iff_not]
            intro e; subst e
            have h1 := HZ.out; have h2 := HZ'.out
            rw [h1] at h2; cases h2; exact hzz rfl
          clear hzz
          go_wp2
          go_quiet (fail)
          go_wp2
          go_ret
          exact ⟨ret_bool HNE.out.symm, hb.trans ((below_drewN wr nq).mono hb.size)⟩
      · have HEQ : Hid (decide (xs = ys) = true) := by
          rw [Hid, decide_eq_true_eq]
          have := HT.out
          rwa [List.take_of_length_le (by omega), List.take_of_length_le (by rw [← HNM.out]; omega)] at this
        go_wp2
        go_ret
        exact ⟨ret_bool HEQ.out.symm, hb⟩
  · have hb : ((xs.length : Int) != (ys.length : Int)) = true := by simp; omega
    have HNE : Hid (decide (xs = ys) = false) := by
      rw [Hid, decide_eq_false_iff_not]
      intro e; subst e; exact hnm rfl
    go_enter Try.func45, Try.ntmps45
    go_wp2
    go_ret
    exact ⟨ret_bool HNE.out.symm, Below.refl _ _⟩

/-- What Rows answers, behind a name. -/
def RowsPost (rows : List ND) (w : World) (e : Ending) (w' : World) : Prop := ∃ v', e = .returned v' ∧ Rd w' v' rows.length 4 (nodeCells rows) ∧ Below w.heap.size w w'
theorem rows_post (k : Nat) (ow : Own) (w : World) (t : Value) (rows : List ND) (h : Tab k ow w t rows) : Calls Try.prog 46 #[t] w (RowsPost rows w) :=
  (rows_any k ow w t rows h).mono fun _ _ ⟨v', h1, h2, h3⟩ => ⟨v', h1, rd_own h2, h3⟩

set_option maxRecDepth 100000 in
set_option maxHeartbeats 400000 in
theorem like_any (k k2 : Nat) (ow ow2 : Own) (w : World) (t r : Value) (rows : List ND) (h : Tab k ow w t rows) (h2 : RTab k2 ow2 w r rows) :
    Calls Try.prog 18 #[t, r] w fun e w' => e = .returned (.bool true) ∧ Below w.heap.size w w' := by
  have hle := h.ok.le
  have H := Lib.hid h
  obtain ⟨rb, v, rfl, ht⟩ := h2
  obtain ⟨a, c, rfl⟩ := ht.hr.slice
  have c5 : w.cell? ⟨rb, 0, none⟩ = some (.slice a rows.length c) := cell_of ht.hp rfl
  have HT := Lib.hid ht
  have lr := lt_of_block ht.hp
  clear h ht
  go_enter Try.func18, Try.ntmps18
  go_wp2_with fail
  go_region_held3 (fun w' => w'.cell? ⟨rb, 0, none⟩ = some (.slice a rows.length c)) (first | assumption)
    (first
      | (go_at_call 46; refine (rows_post k ow w.drew _ rows (H.out.below (Below.refl _ w).drew)).mono ?_; rintro e w1 ⟨v', rfl, hrd1, hb1⟩; have hb1' : Below w.heap.size w w1 := (Below.refl _ w).drew.trans hb1; have c6 : w1.cell? ⟨rb, 0, none⟩ = some (.slice a rows.length c) := (hb1'.cell (p := ⟨rb, 0, none⟩) lr).trans c5)
      | (go_at_call 45; refine (refSame_any _ _ _ rows rows (by unfold maxLen; omega) hrd1 (HT.out.below hb1').hr.rd).mono ?_; rintro e w2 ⟨rfl, hb2⟩; have hb2' : Below w.heap.size w w2 := below_trans hb1' hb2; have c7 : w2.cell? ⟨rb, 0, none⟩ = some (.slice a rows.length c) := (hb2'.cell (p := ⟨rb, 0, none⟩) lr).trans c5)
      | (go_at_call 21; refine (len_any k ow _ _ rows (H.out.below hb2')).mono ?_; rintro e w3 ⟨rfl, rfl⟩))
  all_goals
    go_wp2
    go_ret
    exact ⟨by simp, by assumption⟩


end Go.Dk

