/- play at Cut: two calls in either order. -/
import Derived.Test.YthbjmmnfoeanbaaUb
namespace Go.Dk
open Go.RowKit Go.Maps Go.MapKept
open Go.Proofs hiding intOf

theorem PlayI.fin' {ow ow1 ow2 : Own} {w w0 w1 w2 : World} {t r : Value} {xs ys xs' ys' : List ND} {x : AC} {b : Bool} (h : PlayI ow w w0 t r xs ys x) (h1 : Kept 2 (ow0 w ow) w0 ow1 w1) (r1 : RTab 2 ow1 w1 r ys') (h2 : Kept 1 ow1 w1 ow2 w2) (t2 : Tab 1 ow2 w2 t xs')
    (ex : playP xs x = xs') (ey : playP ys x = ys') (hpq : xs = ys → b = true) : PlayPost ow w t r xs ys x (.returned (.bool b)) w2 := by
  have hk := (KeptIn.of_below (S := S12) (ow := ow0 w ow) h.b).trans ((h1.inn (S := S12) (.inr rfl)).trans (h2.inn (.inl rfl)))
  exact ⟨b, ow2, rfl, hpq, ⟨hk.os, hk.tape, hk.output, hk.size, fun b hb => (hk.own b hb).trans (by simp [ow0, hb]), fun b hb hn => hk.block b hb (by simpa [ow0, hb] using hn)⟩, ⟨by rw [ex]; exact t2, by rw [ey]; exact r1.kept h2 (by decide)⟩⟩

theorem below_drew' (w : World) : Below w.heap.size w w.drew := (Below.refl _ _).drew
theorem PlayI.drew {ow : Own} {w w0 : World} {t r : Value} {xs ys : List ND} {x : AC} (h : PlayI ow w w0 t r xs ys x) : PlayI ow w w0.drew t r xs ys x :=
  ⟨h.t.below (below_drew' _), h.r.below (below_drew' _), below_trans h.b (below_drew' _), h.x.same rfl, h.l⟩

set_option maxRecDepth 100000 in
set_option maxHeartbeats 1000000 in
theorem play_8 (ow : Own) (w : World) (t r : Value) (xs ys : List ND) (h : Pair ow w t r xs ys) (x : AC) (hk : x.kind = 8) : Calls Try.prog 29 #[t, r, x.val] w (PlayPost ow w t r xs ys x) := by
  have HI := Lib.hid (playI h x 52)
  obtain ⟨kd, nm, a, b, ⟨nk, nn, nl, nr⟩⟩ := x
  simp only at hk
  subst hk
  have HI2 : Hid (PlayI ow w (w.alloc (.cells #[.int .i64 8, .string nm, .int .i64 a, .int .i64 b, .int .i64 nk, .string nn, .int .i64 nl, .int .i64 nr] 52)).drew t r xs ys ⟨8, nm, a, b, ⟨nk, nn, nl, nr⟩⟩) := HI.out.drew
  have HX : Hid (playP xs ⟨8, nm, a, b, ⟨nk, nn, nl, nr⟩⟩ = (cutP xs a).2) := by simp [Hid, playP]
  have HY : Hid (playP ys ⟨8, nm, a, b, ⟨nk, nn, nl, nr⟩⟩ = (cutP ys a).2) := by simp [Hid, playP]
  have HE : Hid (xs = ys → ((cutP xs a).1 == (cutP ys a).1) = true) := fun e => by rw [e]; simp
  unfold AC.val
  clear h
  go_enter Try.func29, Try.ntmps29
  go_wp2_with fail
  have c2 : (w.alloc (.cells #[.int .i64 8, .string nm, .int .i64 a, .int .i64 b, .int .i64 nk, .string nn, .int .i64 nl, .int .i64 nr] 52)).cell? ⟨w.heap.size, 2, none⟩ = some (.int .i64 a) := HI.out.x.c2
  have c2d : (w.alloc (.cells #[.int .i64 8, .string nm, .int .i64 a, .int .i64 b, .int .i64 nk, .string nn, .int .i64 nl, .int .i64 nr] 52)).drew.cell? ⟨w.heap.size, 2, none⟩ = some (.int .i64 a) := c2
  go_region_held3 (fun w' => w'.cell? ⟨w.heap.size, 2, none⟩ = some (.int .i64 a)) (first | assumption)
    (first
      | (go_at_call 80; have hz := HRF.out; clear hz; refine (cut_any 1 _ _ _ _ HTF.out a).mono ?_; rintro e w2 ⟨rfl, ow2, hk2, ht2⟩; have HK2 := Lib.hid hk2; have HT2 := Lib.hid ht2; clear hk2 ht2; have c4 : w2.cell? ⟨w.heap.size, 2, none⟩ = some (.int .i64 a) := (HBX.out.same (HK2.out.block _ HLX.out (by rw [HOX.out]; decide))).c2)
      | (go_at_call 89; have hz := HTF2.out; clear hz; refine (refCut_any 2 _ _ _ _ HTF2.out a).mono ?_; rintro e w2 ⟨rfl, ow2, hk2, ht2⟩; have HK2 := Lib.hid hk2; have HT2 := Lib.hid ht2; clear hk2 ht2; have c4 : w2.cell? ⟨w.heap.size, 2, none⟩ = some (.int .i64 a) := (HBX.out.same (HK2.out.block _ HLX.out (by rw [HOX.out]; decide))).c2)
      | (go_at_call 80; refine (cut_any 1 _ _ _ _ HI2.out.t a).mono ?_; rintro e w1 ⟨rfl, ow1, hk1, ht1⟩; have HK1 := Lib.hid hk1; have HT1 := Lib.hid ht1; have HTF2 : Hid (RTab 2 ow1 w1 r ys) := HI2.out.r.kept hk1 (by decide); have HBX : Hid (BoxAC w1 w.heap.size ⟨8, nm, a, b, ⟨nk, nn, nl, nr⟩⟩) := HI2.out.x.same (hk1.block _ HI2.out.l (by simp [ow0])); have HLX : Hid (w.heap.size < w1.heap.size) := Nat.lt_of_lt_of_le HI2.out.l hk1.size; have HOX : Hid (ow1 w.heap.size = 0) := (hk1.own _ HI2.out.l).trans (by simp [ow0]); clear hk1 ht1; have c3 : w1.cell? ⟨w.heap.size, 2, none⟩ = some (.int .i64 a) := HBX.out.c2)
      | (go_at_call 89; refine (refCut_any 2 _ _ _ _ HI2.out.r a).mono ?_; rintro e w1 ⟨rfl, ow1, hk1, ht1⟩; have HK1 := Lib.hid hk1; have HT1 := Lib.hid ht1; have HTF : Hid (Tab 1 ow1 w1 t xs) := HI2.out.t.kept hk1 (by decide); have HRF := Lib.hid ht1; have HBX : Hid (BoxAC w1 w.heap.size ⟨8, nm, a, b, ⟨nk, nn, nl, nr⟩⟩) := HI2.out.x.same (hk1.block _ HI2.out.l (by simp [ow0])); have HLX : Hid (w.heap.size < w1.heap.size) := Nat.lt_of_lt_of_le HI2.out.l hk1.size; have HOX : Hid (ow1 w.heap.size = 0) := (hk1.own _ HI2.out.l).trans (by simp [ow0]); clear hk1 ht1; have c3 : w1.cell? ⟨w.heap.size, 2, none⟩ = some (.int .i64 a) := HBX.out.c2))
  all_goals
    go_wp2
    go_ret
    first
      | exact HI2.out.fin (p := ⟨_, 0, 0⟩) (q := ⟨_, 0, 0⟩) HK1.out HT1.out HK2.out HT2.out HX.out HY.out HE.out
      | exact HI2.out.fin' HK1.out HT1.out HK2.out HT2.out HX.out HY.out HE.out

end Go.Dk
