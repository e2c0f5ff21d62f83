/- The heads of the statements on layer 6. -/
import Derived.Test.YtfldpjacgeoegaaGreatYp
import Derived.Test.YtfldpjacgeoegaaGreatYh
import Derived.Test.YtfldpjacgeoegaaGreatS
namespace Go.Dk
open Go.RowKit Go.Maps Go.MapKept
open Go.Proofs hiding intOf

theorem num06_any (x : Int) (w : World) : Calls Tryz.prog 11 #[.int .i64 x] w fun e w' => e = .returned (.int .i64 x) ∧ w' = w := by
  go_enter Tryz.func11, Tryz.ntmps11
  go_wp2_with fail
  go_ret
  exact ⟨rfl, rfl⟩

set_option maxRecDepth 100000 in
theorem rows06_any (w : World) : Calls Tryz.prog 33 #[] w fun e w' => e = .returned (.slice (some ⟨w.heap.size, 0, none⟩) 6 6) ∧ w' = w.alloc (.cells (nodeCells R6).toArray 51) := by
  go_enter Tryz.func33, Tryz.ntmps33
  go_wp2_with fail
  go_ret
  exact ⟨rfl, rfl⟩

theorem own_two {w : World} {base : Nat} {v : Value} (h : w.ownsRow base 9 1 v 2 (strs [[112], [113]])) : ∃ g c, v = .slice (some ⟨g, 0, none⟩) 2 c ∧ w.cell? ⟨g, 0, none⟩ = some (.string ⟨#[112]⟩) := by
  obtain ⟨_, ⟨_, h0⟩ | ⟨g, cap, cur, rfl, hbg, hg, h1, h2, h3, h4⟩⟩ := h
  · exact absurd h0 (by decide)
  · refine ⟨g, cap, rfl, ?_⟩
    simp only [World.cell?, hg]
    have := congrArg (fun l => l[0]?) h4
    simp at this
    simpa [strs, encStr] using this
theorem rd_lit' (w : World) {b : Nat} (hb : b = w.heap.size) (cs : Array Value) (e : TypeId) {n size : Nat} {xs : List Value} (h : cs.toList = xs) (hl : xs.length = n * size) : Rd (w.alloc (.cells cs e)) (.slice (some ⟨b, 0, none⟩) n n) n size xs := hb ▸ rd_lit w cs e h hl

set_option maxRecDepth 100000 in
set_option maxHeartbeats 4000000 in
theorem heads06_any (w : World) : Calls Tryz.prog 12 #[] w fun e w' => e = .returned (.bool true) ∧ Below w.heap.size w w' := by
  have HB : Hid (Below w.heap.size w (w.alloc (.cells (nodeCells R6).toArray 51))) := below_alloc _ _
  go_enter Tryz.func12, Tryz.ntmps12
  go_wp2_with fail
  refine (rows06_any w).mono ?_
  rintro e w0 ⟨rfl, rfl⟩
  go_wp2_with fail
  refine (from_any 1 (owC w) _ _ R6 (by decide) (rd_lit w _ _ rfl rfl) (by decide)).mono ?_
  rintro e w1 ⟨t, rfl, hb1, ht, _⟩
  obtain ⟨ow, _, ht⟩ := ht R6_from
  rw [R6_from]
  have HT := Lib.hid ht
  have ok := ht.ok
  have HBX := Lib.hid (below_trans (w := w) HB.out hb1)
  clear hb1 ht HB
  have A1 := fun W h => size_any 1 ow W t R6 h 4
  have A2 := fun W h => weight_any 1 ow W t R6 h 4
  have A3 := fun W h => depth_any 1 ow W t R6 h 5
  have A4 := fun W h => grade_any 1 ow W t R6 h 5
  have A5 := fun W h => signs_yes 1 ow W t R6 h 5 (by decide)
  have A6 := fun W h => occurs_any 1 ow W t R6 h 0 5
  have A7 := fun W h => within_any 1 ow W t R6 h 0 5
  rw [R6_size] at A1
  rw [R6_weight] at A2
  rw [R6_depth] at A3
  rw [R6_grade] at A4
  rw [R6_pos ok, R6_neg ok] at A5
  rw [R6_occ] at A6
  rw [R6_within ok] at A7
  have A5 : ∀ (W : World), Tab 1 ow W t R6 → Calls Tryz.prog 34 #[t, .int .i64 5] W (SignsPost W [[112], [113]] []) := A5
  have H1 := Lib.hid A1; have H2 := Lib.hid A2; have H3 := Lib.hid A3; have H4 := Lib.hid A4; have H5 := Lib.hid A5; have H6 := Lib.hid A6; have H7 := Lib.hid A7
  have HL1 := Lib.hid less_331; have HL2 := Lib.hid less_41
  clear ok A1 A2 A3 A4 A5 A6 A7
  have HB : Hid (Below w1.heap.size w1 w1) := Below.refl _ _
  go_wp2_with (first
    | (go_at_call 11; refine (num06_any _ _).mono ?_; rintro e w' ⟨rfl, rfl⟩)
    | (go_at_call 6; refine (H1.out _ (HT.out.below (by repeat (with_reducible first | exact Below.refl _ _ | exact HB.out | refine below_trans ?_ (below_alloc _ _) | refine below_trans ?_ (below_drew1 _) | refine below_trans ?_ (below_drewN _ _) | refine below_sc ?_ (by first | exact Nat.le_refl _ | (simp; done) | (simp; omega)))))).mono ?_; rintro e w2 ⟨rfl, hb2⟩; have HB := Lib.hid (below_trans (w := w1) (by repeat (with_reducible first | exact Below.refl _ _ | exact HB.out | refine below_trans ?_ (below_alloc _ _) | refine below_trans ?_ (below_drew1 _) | refine below_trans ?_ (below_drewN _ _) | refine below_sc ?_ (by first | exact Nat.le_refl _ | (simp; done) | (simp; omega)))) hb2); clear hb2)
    | (go_at_call 8; refine (H2.out _ (HT.out.below (by repeat (with_reducible first | exact Below.refl _ _ | exact HB.out | refine below_trans ?_ (below_alloc _ _) | refine below_trans ?_ (below_drew1 _) | refine below_trans ?_ (below_drewN _ _) | refine below_sc ?_ (by first | exact Nat.le_refl _ | (simp; done) | (simp; omega)))))).mono ?_; rintro e w3 ⟨rfl, hb3⟩; have HB := Lib.hid (below_trans (w := w1) (by repeat (with_reducible first | exact Below.refl _ _ | exact HB.out | refine below_trans ?_ (below_alloc _ _) | refine below_trans ?_ (below_drew1 _) | refine below_trans ?_ (below_drewN _ _) | refine below_sc ?_ (by first | exact Nat.le_refl _ | (simp; done) | (simp; omega)))) hb3); clear hb3)
    | (go_at_call 7; refine (H3.out _ (HT.out.below (by repeat (with_reducible first | exact Below.refl _ _ | exact HB.out | refine below_trans ?_ (below_alloc _ _) | refine below_trans ?_ (below_drew1 _) | refine below_trans ?_ (below_drewN _ _) | refine below_sc ?_ (by first | exact Nat.le_refl _ | (simp; done) | (simp; omega)))))).mono ?_; rintro e w4 ⟨rfl, hb4⟩; have HB := Lib.hid (below_trans (w := w1) (by repeat (with_reducible first | exact Below.refl _ _ | exact HB.out | refine below_trans ?_ (below_alloc _ _) | refine below_trans ?_ (below_drew1 _) | refine below_trans ?_ (below_drewN _ _) | refine below_sc ?_ (by first | exact Nat.le_refl _ | (simp; done) | (simp; omega)))) hb4); clear hb4)
    | (go_at_call 9; refine (H4.out _ (HT.out.below (by repeat (with_reducible first | exact Below.refl _ _ | exact HB.out | refine below_trans ?_ (below_alloc _ _) | refine below_trans ?_ (below_drew1 _) | refine below_trans ?_ (below_drewN _ _) | refine below_sc ?_ (by first | exact Nat.le_refl _ | (simp; done) | (simp; omega)))))).mono ?_; rintro e w5 ⟨rfl, hb5⟩; have HB := Lib.hid (below_trans (w := w1) (by repeat (with_reducible first | exact Below.refl _ _ | exact HB.out | refine below_trans ?_ (below_alloc _ _) | refine below_trans ?_ (below_drew1 _) | refine below_trans ?_ (below_drewN _ _) | refine below_sc ?_ (by first | exact Nat.le_refl _ | (simp; done) | (simp; omega)))) hb5); clear hb5)
    | (go_at_call 34; refine (H5.out _ (HT.out.below (by repeat (with_reducible first | exact Below.refl _ _ | exact HB.out | refine below_trans ?_ (below_alloc _ _) | refine below_trans ?_ (below_drew1 _) | refine below_trans ?_ (below_drewN _ _) | refine below_sc ?_ (by first | exact Nat.le_refl _ | (simp; done) | (simp; omega)))))).mono ?_; rintro e w6 ⟨vx, vy, rfl, hx, hy, _, hb6⟩; obtain ⟨gx, cx, hvx, c0⟩ := own_two hx; obtain ⟨ay, cy, hvy⟩ := own_slice hy; subst hvx hvy; have HB := Lib.hid (below_trans (w := w1) (by repeat (with_reducible first | exact Below.refl _ _ | exact HB.out | refine below_trans ?_ (below_alloc _ _) | refine below_trans ?_ (below_drew1 _) | refine below_trans ?_ (below_drewN _ _) | refine below_sc ?_ (by first | exact Nat.le_refl _ | (simp; done) | (simp; omega)))) hb6); clear hb6 hx hy)
    | (go_at_call 35; refine (H6.out _ (HT.out.below (by repeat (with_reducible first | exact Below.refl _ _ | exact HB.out | refine below_trans ?_ (below_alloc _ _) | refine below_trans ?_ (below_drew1 _) | refine below_trans ?_ (below_drewN _ _) | refine below_sc ?_ (by first | exact Nat.le_refl _ | (simp; done) | (simp; omega)))))).mono ?_; rintro e w7 ⟨rfl, hb7⟩; have c7 := (hb7.cell (p := ⟨gx, 0, none⟩) (World.block_lt_of_cell? _ _ c0)).trans c0; have HB := Lib.hid (below_trans (w := w1) (by repeat (with_reducible first | exact Below.refl _ _ | exact HB.out | refine below_trans ?_ (below_alloc _ _) | refine below_trans ?_ (below_drew1 _) | refine below_trans ?_ (below_drewN _ _) | refine below_sc ?_ (by first | exact Nat.le_refl _ | (simp; done) | (simp; omega)))) hb7); clear hb7)
    | (go_at_call 36; refine (H7.out _ (HT.out.below (by repeat (with_reducible first | exact Below.refl _ _ | exact HB.out | refine below_trans ?_ (below_alloc _ _) | refine below_trans ?_ (below_drew1 _) | refine below_trans ?_ (below_drewN _ _) | refine below_sc ?_ (by first | exact Nat.le_refl _ | (simp; done) | (simp; omega)))))).mono ?_; rintro e w8 ⟨rfl, hb8⟩; have HB := Lib.hid (below_trans (w := w1) (by repeat (with_reducible first | exact Below.refl _ _ | exact HB.out | refine below_trans ?_ (below_alloc _ _) | refine below_trans ?_ (below_drew1 _) | refine below_trans ?_ (below_drewN _ _) | refine below_sc ?_ (by first | exact Nat.le_refl _ | (simp; done) | (simp; omega)))) hb8); clear hb8)
    | (go_at_call 20; have _ := HL9.out; refine (less_any _ _ _ 2 1 [4, 1] [4] (by omega) (by omega) (by exact (rd_lit _ _ _ rfl rfl).below (below_alloc _ _)) (by exact rd_lit' _ (by simp) _ _ rfl rfl)).mono ?_; rintro e w10 ⟨rfl, hb10⟩; rw [HL2.out]; have HB := Lib.hid (below_trans (w := w1) (by repeat (with_reducible first | exact Below.refl _ _ | exact HB.out | refine below_trans ?_ (below_alloc _ _) | refine below_trans ?_ (below_drew1 _) | refine below_trans ?_ (below_drewN _ _) | refine below_sc ?_ (by first | exact Nat.le_refl _ | (simp; done) | (simp; omega)))) hb10); clear hb10)
    | (go_at_call 20; refine (less_any _ _ _ 3 1 [3, 3, 1] [4] (by omega) (by omega) (by exact (rd_lit _ _ _ rfl rfl).below (below_alloc _ _)) (by exact rd_lit' _ (by simp) _ _ rfl rfl)).mono ?_; rintro e w9 ⟨rfl, hb9⟩; rw [HL1.out]; have HL9 := Lib.hid (Eq.refl true); have HB := Lib.hid (below_trans (w := w1) (by repeat (with_reducible first | exact Below.refl _ _ | exact HB.out | refine below_trans ?_ (below_alloc _ _) | refine below_trans ?_ (below_drew1 _) | refine below_trans ?_ (below_drewN _ _) | refine below_sc ?_ (by first | exact Nat.le_refl _ | (simp; done) | (simp; omega)))) hb9); clear hb9))
  go_ret
  exact ⟨rfl, HBX.out.trans (HB.out.mono HBX.out.size)⟩

end Go.Dk

