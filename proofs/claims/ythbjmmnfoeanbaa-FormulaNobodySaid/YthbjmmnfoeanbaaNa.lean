/- FormulaNobody: the walk. -/
import Derived.Test.YthbjmmnfoeanbaaN
import Derived.Test.YthbjmmnfoeanbaaS
import Derived.Test.YthbjmmnfoeanbaaE
namespace Go.Dk
open Go.RowKit Go.Maps Go.MapKept
open Go.Proofs hiding intOf

set_option maxRecDepth 100000 in
set_option maxHeartbeats 1000000 in
theorem nobody_any (w : World) (t : Value) (h : Dead w t) (i : Int) (n : ND) : Calls Try.prog 26 #[t, .int .i64 i, n.val] w (One (.bool true) w) := by
  obtain ⟨kd, nm, l, r⟩ := n
  unfold ND.val
  have hq := fun W => eqNode W ⟨0, ⟨#[]⟩, 0, 0⟩ ⟨0, ⟨#[]⟩, 0, 0⟩
  simp only [decide_true] at hq
  have h0 := h.below (below_alloc w (.cells #[.int .i64 kd, .string nm, .int .i64 l, .int .i64 r] 37))
  have hbx := boxed_new w ⟨kd, nm, l, r⟩ 37
  have HB0 : Hid (Below (w.alloc (.cells #[.int .i64 kd, .string nm, .int .i64 l, .int .i64 r] 37)).heap.size (w.alloc (.cells #[.int .i64 kd, .string nm, .int .i64 l, .int .i64 r] 37)) (w.alloc (.cells #[.int .i64 kd, .string nm, .int .i64 l, .int .i64 r] 37))) := Below.refl _ _
  have HD : Hid (∀ W, Below (w.alloc (.cells #[.int .i64 kd, .string nm, .int .i64 l, .int .i64 r] 37)).heap.size (w.alloc (.cells #[.int .i64 kd, .string nm, .int .i64 l, .int .i64 r] 37)) W → Dead W t) := fun W hb => h0.below hb
  have HX : Hid (∀ W, Below (w.alloc (.cells #[.int .i64 kd, .string nm, .int .i64 l, .int .i64 r] 37)).heap.size (w.alloc (.cells #[.int .i64 kd, .string nm, .int .i64 l, .int .i64 r] 37)) W → Boxed W w.heap.size ⟨kd, nm, l, r⟩) := fun W hb => hbx.below hb
  clear h h0 hbx
  go_enter Try.func26, Try.ntmps26
  go_wp2_with (first
    | (go_at_call 19; refine (atom_dead _ _ (HD.out _ HB0.out) _).mono ?_; rintro e w1 ⟨rfl, hb⟩; have HB1 := Lib.hid (below_trans HB0.out hb); clear hb)
    | (go_at_call 79; refine (bot_dead _ _ (HD.out _ HB1.out)).mono ?_; rintro e w2 ⟨rfl, hb⟩; have HB2 := Lib.hid (below_trans HB1.out hb); clear hb)
    | (go_at_call 73; refine (and_dead _ _ (HD.out _ HB2.out) _ _).mono ?_; rintro e w3 ⟨rfl, hb⟩; have HB3 := Lib.hid (below_trans HB2.out hb); clear hb)
    | (go_at_call 76; refine (or_dead _ _ (HD.out _ HB3.out) _ _).mono ?_; rintro e w4 ⟨rfl, hb⟩; have HB4 := Lib.hid (below_trans HB3.out hb); clear hb)
    | (go_at_call 74; refine (imp_dead _ _ (HD.out _ HB4.out) _ _).mono ?_; rintro e w5 ⟨rfl, hb⟩; have HB5 := Lib.hid (below_trans HB4.out hb); clear hb)
    | (go_at_call 75; refine (not_dead _ _ (HD.out _ HB5.out) _).mono ?_; rintro e w6 ⟨rfl, hb⟩; have HB6 := Lib.hid (below_trans HB5.out hb); clear hb; obtain ⟨c0, c1, c2, c3⟩ := HX.out _ HB6.out)
    | (go_at_call 69; refine (put_dead _ _ (HD.out _ HB6.out) ⟨kd, nm, l, r⟩).mono ?_; rintro e w7 ⟨rfl, hb⟩; have HB7 := Lib.hid (below_trans HB6.out hb); clear hb)
    | (go_at_call 80; refine (cut_dead _ _ (HD.out _ HB7.out) _).mono ?_; rintro e w8 ⟨rfl, hb⟩; have HB8 := Lib.hid (below_trans HB7.out hb); clear hb)
    | (go_at_call 58; refine (node_dead _ _ (HD.out _ HB8.out) _).mono ?_; rintro e w9 ⟨rfl, hb⟩; have HB9 := Lib.hid (below_trans HB8.out hb); have HBa := Lib.hid ((below_trans HB8.out hb).trans ((below_alloc w9 (.cells #[.int .i64 0, .string ⟨#[]⟩, .int .i64 0, .int .i64 0] 37)).mono (below_trans HB8.out hb).size)); clear hb; obtain ⟨e0, e1, e2, e3⟩ := HX.out _ HBa.out)
    | (go_at_call 31; refine (find_dead _ _ (HD.out _ HBa.out) ⟨kd, nm, l, r⟩).mono ?_; rintro e wb ⟨rfl, hb⟩; have HBb := Lib.hid (below_trans HBa.out hb); have HEb := Lib.hid (boxed_new w9 ⟨0, ⟨#[]⟩, 0, 0⟩ 37 |>.below hb); clear hb)
    | (go_at_call 42; refine (below_dead _ _ (HD.out _ HBb.out) _).mono ?_; rintro e wc ⟨rfl, hb⟩; have HBc := Lib.hid (below_trans HBb.out hb); obtain ⟨x0, x1, x2, x3⟩ := HEb.out.below hb; clear hb)
    | (go_at_call 41; refine (len_dead _ _ (HD.out _ HBc.out)).mono ?_; rintro e wd ⟨rfl, hb⟩; have HBd := Lib.hid (below_trans HBc.out hb); clear hb)
    | (go_at_call 28; refine (rows_dead _ _ (HD.out _ HBd.out)).mono ?_; rintro e we ⟨rfl, hb⟩; have HBe := Lib.hid (below_trans HBd.out hb); clear hb)
    | (go_at_call 81; refine (copy_dead _ _ (HD.out _ HBe.out)).mono ?_; rintro e wf ⟨rfl, hb⟩; have HBf := Lib.hid (below_trans HBe.out hb); clear hb)
    | fail)
  go_ret
  exact ⟨rfl, below_trans (below_alloc _ _) HBf.out⟩

set_option maxRecDepth 100000 in
set_option maxHeartbeats 400000 in
theorem formulaNobody_any (w : World) (i : Int) (n : ND) : Calls Try.prog 5 #[.int .i64 i, n.val] w (One (.bool true) w) := by
  obtain ⟨kd, nm, l, r⟩ := n
  unfold ND.val
  have HX : Hid (∀ W, Below (w.alloc (.cells #[.int .i64 kd, .string nm, .int .i64 l, .int .i64 r] 37)).heap.size (w.alloc (.cells #[.int .i64 kd, .string nm, .int .i64 l, .int .i64 r] 37)) W → Boxed W w.heap.size ⟨kd, nm, l, r⟩) := fun W hb => (boxed_new w ⟨kd, nm, l, r⟩ 37).below hb
  go_enter Try.func5, Try.ntmps5
  go_wp2_with (first
    | (go_at_call 26; have hz := HB2.out; clear hz; refine (nobody_any _ (.pointer (some ⟨w1.heap.size, 0, none⟩)) (.inr ⟨_, rfl, World.cell?_alloc_at _ _ _ _ rfl⟩) i ⟨kd, nm, l, r⟩).mono ?_; rintro e w2 ⟨rfl, hb⟩; have HB3 := Lib.hid (below_trans HB2.out hb); clear hb)
    | (go_at_call 26; refine (nobody_any _ (.pointer none) (.inl rfl) i ⟨kd, nm, l, r⟩).mono ?_; rintro e w1 ⟨rfl, hb⟩; have HB1 := Lib.hid hb; have HB2 := Lib.hid (hb.trans ((below_alloc w1 (.cells #[.slice none 0 0, .map none] 43)).mono hb.size)); obtain ⟨e0, e1, e2, e3⟩ := HX.out _ HB2.out; clear hb)
    | (go_at_call 22; refine (heads03_any _).mono ?_; rintro e w4 ⟨rfl, hb4⟩)
    | fail)
  go_ret
  exact ⟨rfl, below_trans (below_trans (below_alloc _ _) HB3.out) hb4⟩
end Go.Dk
