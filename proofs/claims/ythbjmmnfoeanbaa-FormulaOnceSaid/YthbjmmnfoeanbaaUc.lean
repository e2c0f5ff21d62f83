/- asks: what the two tables tell of a number and a row. -/
import Derived.Test.YthbjmmnfoeanbaaO
import Derived.Test.YthbjmmnfoeanbaaU
import Derived.Test.YthbjmmnfoeanbaaR
namespace Go.Dk
open Go.RowKit Go.Maps Go.MapKept
open Go.Proofs hiding intOf

set_option maxRecDepth 100000 in
set_option maxHeartbeats 1000000 in
theorem asks_no (ow : Own) (w : World) (t r : Value) (rows : List ND) (h : Pair ow w t r rows rows) (i : Int) (n : ND) (hin : NDin n) (hb : hasB rows.length i = false) :
    Calls Try.prog 32 #[t, r, .int .i64 i, n.val] w fun e w' => e = .returned (.bool true) ∧ Below w.heap.size w w' := by
  have hle := h.t.ok.le
  have H := Lib.hid h
  obtain ⟨rb, v, hr1, hr⟩ := h.r
  subst hr1
  obtain ⟨ra, rc, hr2⟩ := hr.hr.slice
  subst hr2
  have HR := Lib.hid hr
  have lr := lt_of_block hr.hp
  clear hr
  obtain ⟨kd, nm, l, r'⟩ := n
  unfold ND.val
  have hq := fun W => eqNode W ⟨0, ⟨#[]⟩, 0, 0⟩ ⟨0, ⟨#[]⟩, 0, 0⟩
  simp only [decide_true] at hq
  have HX : Hid (∀ W, Below (w.alloc (.cells #[.int .i64 kd, .string nm, .int .i64 l, .int .i64 r'] 37)).heap.size (w.alloc (.cells #[.int .i64 kd, .string nm, .int .i64 l, .int .i64 r'] 37)) W → Boxed W w.heap.size ⟨kd, nm, l, r'⟩) := fun W hb => (boxed_new w ⟨kd, nm, l, r'⟩ 37).below hb
  have HA : Hid (Below w.heap.size w (w.alloc (.cells #[.int .i64 kd, .string nm, .int .i64 l, .int .i64 r'] 37))) := below_alloc _ _
  clear h
  have c0 : w.cell? ⟨rb, 0, none⟩ = some (.slice ra rows.length rc) := cell_of HR.out.hp rfl
  go_enter Try.func32, Try.ntmps32
  go_wp2_with (first
    | (go_at_call 58; refine (node_no 1 ow _ _ rows (H.out.t.below HA.out) i hb).mono ?_; rintro e w1 ⟨rfl, hb1⟩; have HB2 := Lib.hid (below_trans hb1 (below_trans (below_alloc w1 (.cells #[.int .i64 0, .string ⟨#[]⟩, .int .i64 0, .int .i64 0] 37)) (below_alloc _ (.cells #[.int .i64 0, .string ⟨#[]⟩, .int .i64 0, .int .i64 0] 37)))); have HZ := Lib.hid ((boxed_new w1 ⟨0, ⟨#[]⟩, 0, 0⟩ 37).below (below_alloc (w1.alloc (.cells #[.int .i64 0, .string ⟨#[]⟩, .int .i64 0, .int .i64 0] 37)) (.cells #[.int .i64 0, .string ⟨#[]⟩, .int .i64 0, .int .i64 0] 37))); have HY := Lib.hid (boxed_new (w1.alloc (.cells #[.int .i64 0, .string ⟨#[]⟩, .int .i64 0, .int .i64 0] 37)) ⟨0, ⟨#[]⟩, 0, 0⟩ 37); have hz1 : (w1.alloc (.cells #[.int .i64 0, .string ⟨#[]⟩, .int .i64 0, .int .i64 0] 37)).heap.size = w1.heap.size + 1 := (by simp); rw [hz1] at HY; clear hz1 hb1)
    | (go_at_call 52; have hz := HB2.out; clear hz; refine (refHas_any 2 ow _ _ rows (H.out.r.below (below_trans HA.out HB2.out)) _).mono ?_; rintro e w' ⟨rfl, rfl⟩; obtain ⟨e0, e1, e2, e3⟩ := HX.out _ HB2.out)
    | (go_at_call 31; refine (find_any 1 ow _ _ rows (H.out.t.below (below_trans HA.out HB2.out)) kd l r' nm hin.nm hin.k hin.l hin.r).mono ?_; rintro e w3 ⟨rfl, hb3⟩; have HB3 := Lib.hid (below_trans HB2.out hb3); have HZ3 := Lib.hid (HZ.out.below hb3); have HY3 := Lib.hid (HY.out.below hb3); obtain ⟨x0, x1, x2, x3⟩ := HX.out _ HB3.out; clear hb3)
    | (go_at_call 54; refine (refFind_any 2 ow _ _ rows (H.out.r.below (below_trans HA.out HB3.out)) kd l r' nm).mono ?_; rintro e w4 ⟨rfl, hb4⟩; have HB4 := Lib.hid (below_trans HB3.out hb4); have HZ4 := Lib.hid (HZ3.out.below hb4); have HY4 := Lib.hid (HY3.out.below hb4); clear hb4)
    | (go_at_call 42; refine (below_no 1 ow _ _ rows (H.out.t.below (below_trans HA.out HB4.out)) i hb).mono ?_; rintro e w5 ⟨rfl, hb5⟩; have HB5 := Lib.hid (below_trans HB4.out hb5); have HZ5 := Lib.hid (HZ4.out.below hb5); have HY5 := Lib.hid (HY4.out.below hb5); clear hb5)
    | (go_at_call 90; refine (refBelow_no 2 ow _ _ rows (H.out.r.below (below_trans HA.out HB5.out)) i hb).mono ?_; rintro e w' ⟨rfl, rfl⟩)
    | fail)
  have HS : Hid (∀ W, Below w5.heap.size w5 W → (fun W => (W.cell? ⟨w1.heap.size, 0, none⟩ = some (.int .i64 0) ∧ W.cell? ⟨w1.heap.size, 1, none⟩ = some (.string ⟨#[]⟩) ∧ W.cell? ⟨w1.heap.size, 2, none⟩ = some (.int .i64 0) ∧ W.cell? ⟨w1.heap.size, 3, none⟩ = some (.int .i64 0)) ∧ (W.cell? ⟨w1.heap.size + 1, 0, none⟩ = some (.int .i64 0) ∧ W.cell? ⟨w1.heap.size + 1, 1, none⟩ = some (.string ⟨#[]⟩) ∧ W.cell? ⟨w1.heap.size + 1, 2, none⟩ = some (.int .i64 0) ∧ W.cell? ⟨w1.heap.size + 1, 3, none⟩ = some (.int .i64 0)) ∧ W.cell? ⟨rb, 0, none⟩ = some (.slice ra rows.length rc)) W) := fun W hb =>
    ⟨⟨(HZ5.out.below hb).c0, (HZ5.out.below hb).c1, (HZ5.out.below hb).c2, (HZ5.out.below hb).c3⟩, ⟨(HY5.out.below hb).c0, (HY5.out.below hb).c1, (HY5.out.below hb).c2, (HY5.out.below hb).c3⟩, ((below_trans (below_trans HA.out HB5.out) hb).cell (p := ⟨rb, 0, none⟩) lr).trans c0⟩
  have hd0 : Below w5.heap.size w5 w5.drew := (Below.refl _ _).drew
  go_region_held3 (fun W => (W.cell? ⟨w1.heap.size, 0, none⟩ = some (.int .i64 0) ∧ W.cell? ⟨w1.heap.size, 1, none⟩ = some (.string ⟨#[]⟩) ∧ W.cell? ⟨w1.heap.size, 2, none⟩ = some (.int .i64 0) ∧ W.cell? ⟨w1.heap.size, 3, none⟩ = some (.int .i64 0)) ∧ (W.cell? ⟨w1.heap.size + 1, 0, none⟩ = some (.int .i64 0) ∧ W.cell? ⟨w1.heap.size + 1, 1, none⟩ = some (.string ⟨#[]⟩) ∧ W.cell? ⟨w1.heap.size + 1, 2, none⟩ = some (.int .i64 0) ∧ W.cell? ⟨w1.heap.size + 1, 3, none⟩ = some (.int .i64 0)) ∧ W.cell? ⟨rb, 0, none⟩ = some (.slice ra rows.length rc)) (first | exact HS.out _ (by assumption))
    (first
      | (go_at_call 52; refine (refHas_any 2 ow _ _ rows (H.out.r.below (below_trans (below_trans HA.out HB5.out) (by assumption))) i).mono ?_; rintro e w' ⟨rfl, rfl⟩)
      | (go_at_call 77; refine (refInts_any _ _ _ 0 0 [] [] (by decide) ⟨⟨none, 0, rfl, fun _ => ⟨rfl, rfl⟩, fun _ h => by cases h⟩, rfl⟩ ⟨⟨none, 0, rfl, fun _ => ⟨rfl, rfl⟩, fun _ h => by cases h⟩, rfl⟩).mono ?_; rintro e w6 ⟨rfl, hb6⟩; have hd1 : Below w5.heap.size w5 w6 := below_trans (by assumption) hb6)
      | (go_at_call 41; refine (len_any 1 ow _ _ rows (H.out.t.below (below_trans (below_trans HA.out HB5.out) (by assumption)))).mono ?_; rintro e w' ⟨rfl, rfl⟩))
  all_goals
    go_wp2
    go_ret
    exact ⟨by simp, below_trans (below_trans HA.out HB5.out) (by assumption)⟩
set_option maxRecDepth 100000 in
set_option maxHeartbeats 1000000 in
theorem asks_yes (ow : Own) (w : World) (t r : Value) (rows : List ND) (h : Pair ow w t r rows rows) (i : Nat) (m : ND) (hm : rows[i]? = some m) (n : ND) (hin : NDin n) :
    Calls Try.prog 32 #[t, r, .int .i64 (i : Int), n.val] w fun e w' => e = .returned (.bool true) ∧ Below w.heap.size w w' := by
  have hle := h.t.ok.le
  have H := Lib.hid h
  obtain ⟨rb, v, hr1, hr⟩ := h.r
  subst hr1
  obtain ⟨ra, rc, hr2⟩ := hr.hr.slice
  subst hr2
  have HR := Lib.hid hr
  have lr := lt_of_block hr.hp
  clear hr
  obtain ⟨kd, nm, l, r'⟩ := n
  unfold ND.val
  obtain ⟨mk, mn, ml, mr⟩ := m
  have hq := fun W => eqNode W ⟨mk, mn, ml, mr⟩ ⟨mk, mn, ml, mr⟩
  simp only [decide_true] at hq
  have hi := (List.getElem?_eq_some_iff.1 hm).1
  have hb : hasB rows.length (i : Int) = true := by simp [hasB, hi]
  have HM := Lib.hid hm
  clear hm
  have HX : Hid (∀ W, Below (w.alloc (.cells #[.int .i64 kd, .string nm, .int .i64 l, .int .i64 r'] 37)).heap.size (w.alloc (.cells #[.int .i64 kd, .string nm, .int .i64 l, .int .i64 r'] 37)) W → Boxed W w.heap.size ⟨kd, nm, l, r'⟩) := fun W hb => (boxed_new w ⟨kd, nm, l, r'⟩ 37).below hb
  have HA : Hid (Below w.heap.size w (w.alloc (.cells #[.int .i64 kd, .string nm, .int .i64 l, .int .i64 r'] 37))) := below_alloc _ _
  clear h
  have c0 : w.cell? ⟨rb, 0, none⟩ = some (.slice ra rows.length rc) := cell_of HR.out.hp rfl
  go_enter Try.func32, Try.ntmps32
  go_wp2_with (first
    | (go_at_call 58; refine (node_yes 1 ow _ _ rows (H.out.t.below HA.out) i ⟨mk, mn, ml, mr⟩ HM.out).mono ?_; rintro e w1 ⟨rfl, hb1⟩; have HB2 := Lib.hid (below_trans hb1 (below_trans (below_alloc w1 (.cells #[.int .i64 mk, .string mn, .int .i64 ml, .int .i64 mr] 37)) (below_alloc _ (.cells #[.int .i64 0, .string ⟨#[]⟩, .int .i64 0, .int .i64 0] 37)))); have HB2' := Lib.hid (below_trans hb1 (below_trans (below_alloc w1 (.cells #[.int .i64 mk, .string mn, .int .i64 ml, .int .i64 mr] 37)) (below_alloc _ (.cells #[.int .i64 mk, .string mn, .int .i64 ml, .int .i64 mr] 37)))); have HZ := Lib.hid ((boxed_new w1 ⟨mk, mn, ml, mr⟩ 37).below (below_alloc (w1.alloc (.cells #[.int .i64 mk, .string mn, .int .i64 ml, .int .i64 mr] 37)) (.cells #[.int .i64 mk, .string mn, .int .i64 ml, .int .i64 mr] 37))); have HY := Lib.hid (boxed_new (w1.alloc (.cells #[.int .i64 mk, .string mn, .int .i64 ml, .int .i64 mr] 37)) ⟨mk, mn, ml, mr⟩ 37); have hz1 : (w1.alloc (.cells #[.int .i64 mk, .string mn, .int .i64 ml, .int .i64 mr] 37)).heap.size = w1.heap.size + 1 := (by simp); rw [hz1] at HY; clear hz1 hb1)
    | (go_at_call 52; have hz := HB2.out; clear hz; refine (refHas_any 2 ow _ _ rows (H.out.r.below (below_trans HA.out HB2.out)) _).mono ?_; rintro e w' ⟨rfl, rfl⟩; obtain ⟨g, gc, he, r0, r1, r2, r3, r4⟩ := (HR.out.below (below_trans HA.out HB2.out)).row HM.out; cases he; obtain ⟨e0, e1, e2, e3⟩ := HX.out _ HB2'.out)
    | (go_at_call 31; refine (find_any 1 ow _ _ rows (H.out.t.below (below_trans HA.out HB2'.out)) kd l r' nm hin.nm hin.k hin.l hin.r).mono ?_; rintro e w3 ⟨rfl, hb3⟩; have HB3 := Lib.hid (below_trans HB2'.out hb3); have HZ3 := Lib.hid (HZ.out.below hb3); have HY3 := Lib.hid (HY.out.below hb3); obtain ⟨x0, x1, x2, x3⟩ := HX.out _ HB3.out; clear hb3)
    | (go_at_call 54; refine (refFind_any 2 ow _ _ rows (H.out.r.below (below_trans HA.out HB3.out)) kd l r' nm).mono ?_; rintro e w4 ⟨rfl, hb4⟩; have HB4 := Lib.hid (below_trans HB3.out hb4); have HZ4 := Lib.hid (HZ3.out.below hb4); have HY4 := Lib.hid (HY3.out.below hb4); clear hb4)
    | (go_at_call 42; refine (below_yes 1 ow _ _ rows (H.out.t.below (below_trans HA.out HB4.out)) i hi).mono ?_; rintro e w5 ⟨v5, rfl, hown5, hb5⟩; have HO5 := Lib.hid hown5; clear hown5; have HB5 := Lib.hid (below_trans HB4.out hb5); have HZ5 := Lib.hid (HZ4.out.below hb5); have HY5 := Lib.hid (HY4.out.below hb5); clear hb5)
    | (go_at_call 90; refine (refBelow_yes 2 ow _ _ rows (H.out.r.below (below_trans HA.out HB5.out)) i hi).mono ?_; rintro e w7 ⟨v7, rfl, hown7, hb7⟩; have HO7 := Lib.hid hown7; have HB7 := Lib.hid (below_trans HB5.out hb7); have HZ7 := Lib.hid (HZ5.out.below hb7); have HY7 := Lib.hid (HY5.out.below hb7); have HO57 := Lib.hid ((rd_own HO5.out).below hb7); clear hown7 hb7)
    | fail)
  have HS : Hid (∀ W, Below w7.heap.size w7 W → (fun W => (W.cell? ⟨w1.heap.size, 0, none⟩ = some (.int .i64 mk) ∧ W.cell? ⟨w1.heap.size, 1, none⟩ = some (.string mn) ∧ W.cell? ⟨w1.heap.size, 2, none⟩ = some (.int .i64 ml) ∧ W.cell? ⟨w1.heap.size, 3, none⟩ = some (.int .i64 mr)) ∧ (W.cell? ⟨w1.heap.size + 1, 0, none⟩ = some (.int .i64 mk) ∧ W.cell? ⟨w1.heap.size + 1, 1, none⟩ = some (.string mn) ∧ W.cell? ⟨w1.heap.size + 1, 2, none⟩ = some (.int .i64 ml) ∧ W.cell? ⟨w1.heap.size + 1, 3, none⟩ = some (.int .i64 mr)) ∧ W.cell? ⟨rb, 0, none⟩ = some (.slice (some ⟨g, 0, none⟩) rows.length rc)) W) := fun W hb =>
    ⟨⟨(HZ7.out.below hb).c0, (HZ7.out.below hb).c1, (HZ7.out.below hb).c2, (HZ7.out.below hb).c3⟩, ⟨(HY7.out.below hb).c0, (HY7.out.below hb).c1, (HY7.out.below hb).c2, (HY7.out.below hb).c3⟩, ((below_trans (below_trans HA.out HB7.out) hb).cell (p := ⟨rb, 0, none⟩) lr).trans c0⟩
  have hd0 : Below w7.heap.size w7 w7.drew := (Below.refl _ _).drew
  go_region_held3 (fun W => (W.cell? ⟨w1.heap.size, 0, none⟩ = some (.int .i64 mk) ∧ W.cell? ⟨w1.heap.size, 1, none⟩ = some (.string mn) ∧ W.cell? ⟨w1.heap.size, 2, none⟩ = some (.int .i64 ml) ∧ W.cell? ⟨w1.heap.size, 3, none⟩ = some (.int .i64 mr)) ∧ (W.cell? ⟨w1.heap.size + 1, 0, none⟩ = some (.int .i64 mk) ∧ W.cell? ⟨w1.heap.size + 1, 1, none⟩ = some (.string mn) ∧ W.cell? ⟨w1.heap.size + 1, 2, none⟩ = some (.int .i64 ml) ∧ W.cell? ⟨w1.heap.size + 1, 3, none⟩ = some (.int .i64 mr)) ∧ W.cell? ⟨rb, 0, none⟩ = some (.slice (some ⟨g, 0, none⟩) rows.length rc)) (first | exact HS.out _ (by assumption))
    (first
      | (go_at_call 52; refine (refHas_any 2 ow _ _ rows (H.out.r.below (below_trans (below_trans HA.out HB7.out) (by assumption))) i).mono ?_; rintro e w' ⟨rfl, rfl⟩)
      | (go_at_call 77; refine (refInts_any _ _ _ _ _ (natInts (below rows i)) (natInts (below rows i)) (by have := below_le rows i; unfold maxLen; omega) (HO57.out.below (by assumption)) ((rd_own HO7.out).below (by assumption))).mono ?_; rintro e w6 ⟨rfl, hb6⟩; have hd1 : Below w7.heap.size w7 w6 := below_trans (by assumption) hb6)
      | (go_at_call 41; refine (len_any 1 ow _ _ rows (H.out.t.below (below_trans (below_trans HA.out HB7.out) (by assumption)))).mono ?_; rintro e w' ⟨rfl, rfl⟩))
  all_goals
    go_wp2
    go_ret
    exact ⟨by simp, below_trans (below_trans HA.out HB7.out) (by assumption)⟩
end Go.Dk
