/- play: a copy that goes its own way; Cut; no action. -/
import Derived.Test.YthbjmmnfoeanbaaUe
namespace Go.Dk
open Go.RowKit Go.Maps Go.MapKept
open Go.Proofs hiding intOf

theorem PlayPost.quiet {ow : Own} {w w' : World} {t r : Value} {xs ys : List ND} {x : AC} {b : Bool} (h : Pair ow w t r xs ys) (hb : Below w.heap.size w w') (ex : ∀ zs, playP zs x = zs) (hpq : xs = ys → b = true) : PlayPost ow w t r xs ys x (.returned (.bool b)) w' :=
  ⟨b, ow, rfl, hpq, .of_below hb, by rw [ex, ex]; exact h.below hb⟩

set_option maxRecDepth 100000 in
set_option maxHeartbeats 800000 in
theorem play_other (ow : Own) (w : World) (t r : Value) (xs ys : List ND) (h : Pair ow w t r xs ys) (x : AC) (hk : ∀ k : Nat, k ≤ 8 → x.kind ≠ k) : Calls Try.prog 29 #[t, r, x.val] w (PlayPost ow w t r xs ys x) := by
  have H := Lib.hid h
  obtain ⟨kd, nm, a, b, ⟨nk, nn, nl, nr⟩⟩ := x
  simp only at hk
  have e0 : kd ≠ 0 := hk 0 (by omega)
  have e1 : kd ≠ 1 := hk 1 (by omega)
  have e2 : kd ≠ 2 := hk 2 (by omega)
  have e3 : kd ≠ 3 := hk 3 (by omega)
  have e4 : kd ≠ 4 := hk 4 (by omega)
  have e5 : kd ≠ 5 := hk 5 (by omega)
  have e6 : kd ≠ 6 := hk 6 (by omega)
  have e7 : kd ≠ 7 := hk 7 (by omega)
  have e8 : kd ≠ 8 := hk 8 (by omega)
  have HP : Hid (∀ zs, playP zs ⟨kd, nm, a, b, ⟨nk, nn, nl, nr⟩⟩ = zs) := fun zs => by simp [playP, e0, e1, e2, e3, e4, e5, e6, e8]
  have f0 : (kd == 0) = false := by simpa using e0
  have f1 : (kd == 1) = false := by simpa using e1
  have f2 : (kd == 2) = false := by simpa using e2
  have f3 : (kd == 3) = false := by simpa using e3
  have f4 : (kd == 4) = false := by simpa using e4
  have f5 : (kd == 5) = false := by simpa using e5
  have f6 : (kd == 6) = false := by simpa using e6
  have f7 : (kd == 7) = false := by simpa using e7
  have f8 : (kd == 8) = false := by simpa using e8
  clear h hk e0 e1 e2 e3 e4 e5 e6 e7 e8
  unfold AC.val
  go_enter Try.func29, Try.ntmps29
  go_wp2
  go_ret
  exact PlayPost.quiet H.out (below_alloc _ _) HP.out (fun _ => rfl)

/-- Colours for a copy: t's are 1, all else 0. -/
def owT (w : World) (ow : Own) : Own := fun b => if b < w.heap.size ∧ ow b = 1 then 1 else 0

set_option maxRecDepth 100000 in
set_option maxHeartbeats 1000000 in
theorem play_7 (ow : Own) (w : World) (t r : Value) (xs ys : List ND) (h : Pair ow w t r xs ys) (x : AC) (hk : x.kind = 7) : Calls Try.prog 29 #[t, r, x.val] w (PlayPost ow w t r xs ys x) := by
  have H := Lib.hid h
  obtain ⟨kd, nm, a, b, ⟨nk, nn, nl, nr⟩⟩ := x
  simp only at hk
  subst hk
  have HP : Hid (∀ zs, playP zs ⟨7, nm, a, b, ⟨nk, nn, nl, nr⟩⟩ = zs) := fun zs => by simp [playP]
  have hle := h.t.ok.le
  obtain ⟨rb, v, hr1, hr⟩ := h.r
  subst hr1
  obtain ⟨ra, rc, hr2⟩ := hr.hr.slice
  subst hr2
  have c5 : w.cell? ⟨rb, 0, none⟩ = some (.slice ra ys.length rc) := cell_of hr.hp rfl
  have HR := Lib.hid hr
  have lr := lt_of_block hr.hp
  have HT : Hid (Tab 1 (owT w ow) (w.alloc (.cells #[.int .i64 7, .string nm, .int .i64 a, .int .i64 b, .int .i64 nk, .string nn, .int .i64 nl, .int .i64 nr] 52)) t xs) := (h.t.recolourLt (fun b hb e => by simp [owT, hb, e])).below (below_alloc _ _)
  have HX := Lib.hid (boxac_new w ⟨7, nm, a, b, ⟨nk, nn, nl, nr⟩⟩ 52)
  have hcp : (⟨#[99, 111, 112, 105, 101, 100]⟩ : ByteArray).size ≤ maxLen := by unfold maxLen; show 6 ≤ _; omega
  clear h hr
  unfold AC.val
  by_cases hxy : xs = ys
  · subst hxy
    have hxx : decide (xs = xs) = true := by simp
    go_enter Try.func29, Try.ntmps29
    go_wp2_with (first
      | (go_at_call 81; refine (copy_any 1 _ _ _ _ HT.out 3).mono ?_; rintro e w1 ⟨c, ow1, rfl, ht1, hk1, hb1⟩; obtain ⟨pc, hpc⟩ := ht1.ptr; subst hpc; have HT1 := Lib.hid ht1; have HK1 := Lib.hid hk1; have HB1 : Hid (Below w.heap.size w w1) := below_trans (below_alloc _ _) hb1; have c6 : w1.cell? ⟨rb, 0, none⟩ = some (.slice ra xs.length rc) := (HB1.out.cell (p := ⟨rb, 0, none⟩) lr).trans c5; have a2 : w1.cell? ⟨w.heap.size, 2, none⟩ = some (.int .i64 a) := (hb1.cell (p := ⟨w.heap.size, 2, none⟩) (by simp)).trans HX.out.c2; have lx : w.heap.size < w1.heap.size := World.block_lt_of_cell? w1 _ a2; clear ht1 hk1 hb1)
      | fail)
    go_region_held3 (fun w' => w'.cell? ⟨rb, 0, none⟩ = some (.slice ra xs.length rc)) (first | assumption)
      (first
        | (go_at_call 28; refine (rows_post 3 _ _ _ _ (HT1.out.below (Below.refl _ w1).drew)).mono ?_; rintro e w2 ⟨v', rfl, hrd2, hb2⟩; have hb2' : Below w1.heap.size w1 w2 := (Below.refl _ w1).drew.trans hb2; have hb2w : Below w.heap.size w w2 := below_trans HB1.out hb2'; have c7 : w2.cell? ⟨rb, 0, none⟩ = some (.slice ra xs.length rc) := (hb2w.cell (p := ⟨rb, 0, none⟩) lr).trans c5)
        | (go_at_call 30; refine (refSame_any _ _ _ xs xs (by unfold maxLen; omega) hrd2 (HR.out.below hb2w).hr.rd).mono ?_; rintro e w3 ⟨rfl, hb3⟩; have hb3' : Below w1.heap.size w1 w3 := below_trans hb2' hb3; have hb3w : Below w.heap.size w w3 := below_trans HB1.out hb3'; have c8 : w3.cell? ⟨rb, 0, none⟩ = some (.slice ra xs.length rc) := (hb3w.cell (p := ⟨rb, 0, none⟩) lr).trans c5; have a3 : w3.cell? ⟨w.heap.size, 2, none⟩ = some (.int .i64 a) := (hb3'.cell (p := ⟨w.heap.size, 2, none⟩) lx).trans a2))
    all_goals
      have HB3 := Lib.hid hb3w
      have HT3 : Hid (Tab 3 ow1 w3 (.pointer (some ⟨pc, 0, none⟩)) xs) := HT1.out.below hb3'
      have HP3 : Hid (∀ b, b < w.heap.size → ow1 b ≠ 3) := fun b hb => by rw [HK1.out.own b (by simp; omega)]; simp only [owT]; split <;> simp
      have HL3 : Hid (w.heap.size < w3.heap.size ∧ ow1 w.heap.size ≠ 3) := ⟨World.block_lt_of_cell? w3 _ a3, by rw [HK1.out.own _ (by simp)]; simp [owT]⟩
      clear hb3w hb3' hb2w hb2' hb3 hb2 hrd2
      go_wp2_with (first
        | (go_at_call 19; refine (atom_any 3 _ _ _ _ HT3.out _ hcp).mono ?_; rintro e w4 hq; obtain ⟨ow4, rfl, hk4, ht4⟩ := hq.out; have HK4 := Lib.hid hk4; have HT4 := Lib.hid ht4; have a4 : w4.cell? ⟨w.heap.size, 2, none⟩ = some (.int .i64 a) := (cell_same a3 (hk4.block _ HL3.out.1 HL3.out.2)); clear hq hk4 ht4)
        | (go_at_call 75; refine (not_any 3 _ _ _ _ HT4.out _).mono ?_; rintro e w5 hq; obtain ⟨ow5, rfl, hk5, ht5⟩ := hq.out; have HK5 := Lib.hid hk5; clear hq hk5 ht5))
      go_ret
      exact PlayPost.quiet H.out (HB3.out.trans ((HK4.out.trans HK5.out).below HB3.out.size HP3.out)) HP.out (fun _ => rfl)
  · have hxx : decide (xs = ys) = false := by simpa using hxy
    have HN := Lib.hid hxy
    clear hxy
    go_enter Try.func29, Try.ntmps29
    go_wp2_with (first
      | (go_at_call 81; refine (copy_any 1 _ _ _ _ HT.out 3).mono ?_; rintro e w1 ⟨c, ow1, rfl, ht1, hk1, hb1⟩; obtain ⟨pc, hpc⟩ := ht1.ptr; subst hpc; have HT1 := Lib.hid ht1; have HK1 := Lib.hid hk1; have HB1 : Hid (Below w.heap.size w w1) := below_trans (below_alloc _ _) hb1; have c6 : w1.cell? ⟨rb, 0, none⟩ = some (.slice ra ys.length rc) := (HB1.out.cell (p := ⟨rb, 0, none⟩) lr).trans c5; have a2 : w1.cell? ⟨w.heap.size, 2, none⟩ = some (.int .i64 a) := (hb1.cell (p := ⟨w.heap.size, 2, none⟩) (by simp)).trans HX.out.c2; have lx : w.heap.size < w1.heap.size := World.block_lt_of_cell? w1 _ a2; clear ht1 hk1 hb1)
      | fail)
    go_region_held3 (fun w' => w'.cell? ⟨rb, 0, none⟩ = some (.slice ra ys.length rc)) (first | assumption)
      (first
        | (go_at_call 28; refine (rows_post 3 _ _ _ _ (HT1.out.below (Below.refl _ w1).drew)).mono ?_; rintro e w2 ⟨v', rfl, hrd2, hb2⟩; have hb2' : Below w1.heap.size w1 w2 := (Below.refl _ w1).drew.trans hb2; have hb2w : Below w.heap.size w w2 := below_trans HB1.out hb2'; have c7 : w2.cell? ⟨rb, 0, none⟩ = some (.slice ra ys.length rc) := (hb2w.cell (p := ⟨rb, 0, none⟩) lr).trans c5)
        | (go_at_call 30; refine (refSame_any _ _ _ xs ys (by unfold maxLen; omega) hrd2 (HR.out.below hb2w).hr.rd).mono ?_; rintro e w3 ⟨rfl, hb3⟩; have hb3' : Below w1.heap.size w1 w3 := below_trans hb2' hb3; have hb3w : Below w.heap.size w w3 := below_trans HB1.out hb3'; have c8 : w3.cell? ⟨rb, 0, none⟩ = some (.slice ra ys.length rc) := (hb3w.cell (p := ⟨rb, 0, none⟩) lr).trans c5; have a3 : w3.cell? ⟨w.heap.size, 2, none⟩ = some (.int .i64 a) := (hb3'.cell (p := ⟨w.heap.size, 2, none⟩) lx).trans a2))
    all_goals
      have HB3 := Lib.hid hb3w
      clear hb3w hb3' hb2w hb2' hb3 hb2 hrd2
      go_wp2
      go_ret
      exact PlayPost.quiet H.out HB3.out HP.out (fun h => absurd h HN.out)

/-- An action. -/
theorem play_any (ow : Own) (w : World) (t r : Value) (xs ys : List ND) (h : Pair ow w t r xs ys) (x : AC) (hin : ACin x) : Calls Try.prog 29 #[t, r, x.val] w (PlayPost ow w t r xs ys x) := by
  by_cases h0 : x.kind = 0
  · exact play_0 ow w t r xs ys h x hin h0
  by_cases h1 : x.kind = 1
  · exact play_1 ow w t r xs ys h x hin h1
  by_cases h2 : x.kind = 2
  · exact play_2 ow w t r xs ys h x hin h2
  by_cases h3 : x.kind = 3
  · exact play_3 ow w t r xs ys h x hin h3
  by_cases h4 : x.kind = 4
  · exact play_4 ow w t r xs ys h x hin h4
  by_cases h5 : x.kind = 5
  · exact play_5 ow w t r xs ys h x hin h5
  by_cases h6 : x.kind = 6
  · exact play_6 ow w t r xs ys h x hin h6
  by_cases h7 : x.kind = 7
  · exact play_7 ow w t r xs ys h x h7
  by_cases h8 : x.kind = 8
  · exact play_8 ow w t r xs ys h x h8
  refine play_other ow w t r xs ys h x (fun k hk => ?_)
  match k, hk with
  | 0, _ => exact h0
  | 1, _ => exact h1
  | 2, _ => exact h2
  | 3, _ => exact h3
  | 4, _ => exact h4
  | 5, _ => exact h5
  | 6, _ => exact h6
  | 7, _ => exact h7
  | 8, _ => exact h8

end Go.Dk
