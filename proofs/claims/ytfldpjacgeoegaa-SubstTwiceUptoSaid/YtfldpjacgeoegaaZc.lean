/- The heads of the statements on layer 7, walked. -/
import Derived.Test.YtfldpjacgeoegaaZb
namespace Go.Dk
open Go.RowKit Go.Maps Go.MapKept
open Go.Proofs hiding intOf

/-- New blocks of colour 2. -/
def re2 (ow : Own) (w : World) : Own := fun b => if b < w.heap.size then ow b else 2
theorem kept_re {ow : Own} {w W : World} (hb : Below w.heap.size w W) : Kept 1 ow w (re2 ow w) W := (hb.kept_ow).recolour (fun b hb => by simp [re2, hb])
theorem tab_re2 {ow : Own} {w W : World} {t : Value} {rows : List ND} (h : Tab 1 ow w t rows) (hb : Below w.heap.size w W) : Tab 1 (re2 ow w) W t rows := tab_re h hb

set_option maxRecDepth 100000 in
set_option maxHeartbeats 4000000 in
theorem heads07_any (w : World) : Calls Try.prog 21 #[] w fun e w' => e = .returned (.bool true) ∧ Below w.heap.size w w' := by
  have l1 : (⟨#[112]⟩ : ByteArray).size ≤ maxLen := by decide
  have l2 : (⟨#[113]⟩ : ByteArray).size ≤ maxLen := by decide
  go_enter Try.func21, Try.ntmps21
  go_wp2_with fail
  refine (new_any 1 (owC w) w).mono ?_
  rintro e w0 ⟨t, ow0, rfl, ht0, hk0, _⟩
  go_wp2_with fail
  have A1 := atom_any 1 _ _ _ _ ht0 ⟨#[112]⟩ l1
  rw [hp1] at A1
  refine A1.mono ?_
  clear A1 ht0 l1
  rintro e w1 ⟨rfl, ow1, hk1, ht1⟩
  have hk1 := hk0.trans hk1
  clear hk0
  go_wp2_with fail
  have A2 := atom_any 1 _ _ _ _ ht1 ⟨#[113]⟩ l2
  rw [hp2] at A2
  refine A2.mono ?_
  clear A2 ht1 l2
  rintro e w2 ⟨rfl, ow2, hk2, ht2⟩
  have hk2 := hk1.trans hk2
  clear hk1
  go_wp2_with fail
  have A3 := imp_any 1 _ _ _ _ ht2 0 1
  rw [gp3] at A3
  refine A3.mono ?_
  clear A3 ht2
  rintro e w3 ⟨rfl, ow3, hk3, ht3⟩
  have K3 := Lib.hid (hk2.trans hk3)
  have T3 := Lib.hid ht3
  clear hk2 hk3 ht3
  go_wp2_with fail
  have A4 := put07_any ow3 (w3.alloc (.cells (hyCells byPQ).toArray 60)) t _ g3 (T3.out.below (below_alloc _ _)) 2 byPQ (by decide) (rd_lit _ _ _ rfl rfl) (by decide)
  rw [gp4] at A4
  refine A4.mono ?_
  clear A4
  rintro e w4 ⟨rfl, ow4, hk4, ht4⟩
  have K4 := Lib.hid ((K3.out.trans (below_alloc _ _).kept_ow).trans hk4)
  clear hk4 K3 T3
  go_wp2_with fail
  have A5 := imp_any 1 _ _ _ _ ht4 1 0
  rw [gp5] at A5
  refine A5.mono ?_
  clear A5 ht4
  rintro e w5 ⟨rfl, ow5, hk5, ht5⟩
  have K5 := Lib.hid (K4.out.trans hk5)
  have T5 := Lib.hid ht5
  clear hk5 K4 ht5
  go_wp2_with fail
  refine (match07_any ow5 w5 t g4 T5.out 2 3).mono ?_
  rintro e w6 ⟨v, lm, bm, rfl, _, hms, hown6, hb6⟩
  have hl0 : lookE g4 [2, 3] = 0 := by decide
  rw [hl0]
  obtain ⟨rfl, rfl⟩ := gpM T5.out.ok (hms hl0)
  have K6 := Lib.hid (K5.out.trans (kept_re (ow := ow5) hb6))
  have T6 := Lib.hid (tab_re2 T5.out hb6)
  have O6 := Lib.hid hown6
  have C6 : Hid (∀ g, v.ownBlock = some g → re2 ow5 w5 g ≠ 1) := fun g hg => by have := (hown6.lt g hg).1; unfold re2; rw [if_neg (by omega)]; decide
  clear hms hl0 hown6 hb6 K5 T5
  generalize re2 ow5 w5 = ow6 at *
  go_wp2_with fail
  have A7 := imp_any 1 _ _ _ _ T6.out 1 1
  rw [gp6] at A7
  refine A7.mono ?_
  clear A7
  rintro e w7 ⟨rfl, ow7, hk7, ht7⟩
  have T7 := Lib.hid ht7
  have K7 := Lib.hid hk7
  clear hk7 ht7 T6
  go_wp2_with fail
  have A8 := simple_any ow7 w7 t g5 T7.out 4
  rw [gp7] at A8
  refine A8.mono ?_
  clear A8
  rintro e w8 ⟨rfl, ow8, hk8, ht8⟩
  have T8 := Lib.hid ht8
  have K8 := Lib.hid (K7.out.trans hk8)
  clear hk8 ht8 T7 K7
  go_wp2_with fail
  refine (node_yes 1 ow8 w8 t g7 T8.out 6 ⟨5, ⟨#[]⟩, 5, 5⟩ rfl).mono ?_
  rintro e w9 ⟨rfl, hb9⟩
  have BX : Hid (Boxed (w9.alloc (.cells #[.int .i64 5, .string ⟨#[]⟩, .int .i64 5, .int .i64 5] 58)) w9.heap.size ⟨5, ⟨#[]⟩, 5, 5⟩) := boxed_new w9 ⟨5, ⟨#[]⟩, 5, 5⟩ _
  have hb9' := below_trans hb9 (below_alloc w9 (.cells #[.int .i64 5, .string ⟨#[]⟩, .int .i64 5, .int .i64 5] 58))
  have K9 := Lib.hid (K8.out.trans (kept_re (ow := ow8) hb9'))
  have T9 := Lib.hid (tab_re2 T8.out hb9')
  have C9 : Hid (re2 ow8 w8 w9.heap.size ≠ 1) := by have := hb9.size; unfold Hid re2; rw [if_neg (by omega)]; decide
  clear hb9 hb9' K8 T8
  generalize re2 ow8 w8 = ow9 at *
  go_wp2_with fail
  have A10 := put07_any ow9 ((w9.alloc (.cells #[.int .i64 5, .string ⟨#[]⟩, .int .i64 5, .int .i64 5] 58)).alloc (.cells (hyCells byPP).toArray 60)) t (.slice (some ⟨w9.heap.size + 1, 0, none⟩) 2 2) g7 (T9.out.below (below_alloc _ _)) 2 byPP (by decide) (rd_lit' _ (by simp) _ _ rfl rfl) (by decide)
  rw [gp8] at A10
  refine A10.mono ?_
  clear A10
  rintro e w10 ⟨rfl, ow10, hk10, ht10⟩
  have T10 := Lib.hid ht10
  have K10 := Lib.hid (((below_alloc _ _).kept_ow).trans hk10)
  clear hk10 ht10 T9
  go_wp2_with fail
  have A11 := replace_any ow10 w10 t g7 T10.out 2 1 0
  rw [gpR] at A11
  refine A11.mono ?_
  clear A11
  rintro e w11 ⟨rfl, ow11, hk11, ht11⟩
  have T11 := Lib.hid ht11
  have K11 := Lib.hid (K10.out.trans hk11)
  clear hk11 ht11 T10 K10
  go_wp2_with fail
  have A12 := imp_any 1 _ _ _ _ T11.out 0 0
  rw [gp9] at A12
  refine A12.mono ?_
  clear A12
  rintro e w12 ⟨rfl, ow12, hk12, ht12⟩
  have K12 := Lib.hid (K11.out.trans hk12)
  have B12 := Lib.hid (BX.out.kept K12.out C9.out)
  have O12 := Lib.hid (own_keptC O6.out (K9.out.trans K12.out) C6.out)
  have H12 : Hid (Below w.heap.size w w12) := kept_below ((K6.out.trans K9.out).trans K12.out)
  clear hk12 ht12 K11 T11 BX O6 K6 K9 K12
  obtain ⟨va, vc, rfl⟩ := own_slice O12.out
  have R12 := Lib.hid (rd_own O12.out)
  clear O12
  go_wp2_with (go_at_call 31; refine (hyps_any _ _ _ byPQ byPQ (R12.out.below (below_alloc _ _)) (rd_lit _ _ _ rfl rfl) (by decide) (by decide)).mono ?_; rintro e w13 ⟨rfl, hb13⟩; have hq13 := below_trans (below_alloc _ _) hb13; obtain ⟨c0, c1, c2, c3⟩ := B12.out.below hq13; have HQ := Lib.hid hq13; clear hb13 hq13; simp only [decide_true])
  go_ret
  exact ⟨by simp, H12.out.trans (HQ.out.mono H12.out.size)⟩

end Go.Dk

