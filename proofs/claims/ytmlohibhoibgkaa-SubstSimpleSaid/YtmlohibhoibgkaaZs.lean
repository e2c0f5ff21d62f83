/- SubstSimple, walked: the program's table and the document's side by side. -/
import Derived.Test.YtmlohibhoibgkaaZq
import Derived.Test.YtmlohibhoibgkaaZa
import Derived.Test.YtmlohibhoibgkaaEe
import Derived.Test.YtmlohibhoibgkaaU
namespace Go.Dk
open Go.RowKit Go.Maps Go.MapKept
open Go.Proofs hiding intOf

theorem refSimple_any (k : Nat) (ow : Own) (w : World) (t : Value) (rows : List ND) (h : RTab k ow w t rows) (id : Int) :
    Calls Try.prog 20 #[t, .int .i64 id] w (RPutPost k ow w t (simpP rows id)) := by
  cases hb : hasB rows.length id with
  | false => exact refSimple_no k ow w t rows h id hb
  | true =>
    obtain ⟨x, rfl, hx⟩ := nat_of_has hb
    have := refSimple_yes k ow w t rows h x hx
    unfold simpP
    rw [if_neg (by rw [hb]; decide), Int.toNat_natCast, ← simple_same h.ok hx]
    exact this

/-- The two tables, whatever came before them kept. -/
structure PaI (w W : World) (ow : Own) (t r : Value) (xs ys : List ND) : Prop where
  p : Pair ow W t r xs ys
  bl : Below w.heap.size w W
  lo : ∀ b, b < w.heap.size → ow b = 0
section
variable {w W W' : World} {ow ow' : Own} {t r : Value} {xs ys zs : List ND}
theorem PaI.putT (h : PaI w W ow t r xs ys) (hk : Kept 1 ow W ow' W') (ht : Tab 1 ow' W' t zs) : PaI w W' ow' t r zs ys :=
  ⟨⟨ht, h.p.r.kept hk (by decide)⟩, h.bl.trans (hk.below h.bl.size (fun b hb => by rw [h.lo b hb]; decide)), fun b hb => (hk.own b (Nat.lt_of_lt_of_le hb h.bl.size)).trans (h.lo b hb)⟩
theorem PaI.putR (h : PaI w W ow t r xs ys) (hk : Kept 2 ow W ow' W') (ht : RTab 2 ow' W' r zs) : PaI w W' ow' t r xs zs :=
  ⟨⟨h.p.t.kept hk (by decide), ht⟩, h.bl.trans (hk.below h.bl.size (fun b hb => by rw [h.lo b hb]; decide)), fun b hb => (hk.own b (Nat.lt_of_lt_of_le hb h.bl.size)).trans (h.lo b hb)⟩
theorem PaI.below (h : PaI w W ow t r xs ys) (hb : Below W.heap.size W W') : PaI w W' ow t r xs ys := ⟨h.p.below hb, below_trans h.bl hb, h.lo⟩

end


def TrueP (w : World) (e : Ending) (w' : World) : Prop := e = .returned (.bool true) ∧ Below w.heap.size w w'

theorem simpP_twice {rows : List ND} (ok : Ok rows) {id : Int} (he : (simpP rows id).err = 0) : simpP (simpP rows id).rows (simpP rows id).id = ⟨(simpP rows id).rows, (simpP rows id).id, 0⟩ := by
  cases hb : hasB rows.length id with
  | false =>
    unfold simpP at he
    rw [if_pos hb] at he
    cases he
  | true =>
    obtain ⟨x, rfl, hx⟩ := nat_of_has hb
    have e : simpP rows (x : Int) = anewP simpOf rows x := by unfold simpP; rw [if_neg (by rw [hb]; decide), Int.toNat_natCast, ← simple_same ok hx]
    rw [e] at he ⊢
    obtain ⟨i, h1, h2, h3⟩ := simple_twice ok hx he
    have ok2 := (anewP_sem ok (simpOf_sem ok) hx he).1
    rw [h1]
    unfold simpP
    rw [if_neg (by simp [hasB, h2]), Int.toNat_natCast, ← simple_same ok2 h2, h3]

set_option maxRecDepth 100000 in
set_option maxHeartbeats 1000000 in
theorem substSimple_any (w : World) (v : Value) (rows : List ND) (hn : ∀ n ∈ rows, n.name.size ≤ maxLen) (hr : Rd w v rows.length 4 (nodeCells rows)) (hm : rows.length ≤ maxLen) (hl : rows.length * 40 ≤ 140737488355328) (id : Int) :
    Calls Try.prog 5 #[v, .int .i64 id] w (TrueP w) := by
  have HBo := Lib.hid (both_any w v rows hn hr hm hl)
  obtain ⟨va, vc, rfl⟩ := hr.slice
  clear hr hn hm hl
  by_cases h0 : fromE [] rows = 0
  · have H0 := Lib.hid h0
    clear h0
    go_enter Try.func5, Try.ntmps5
    go_wp2_with fail
    refine HBo.out.mono ?_
    rintro e w1 ⟨hb1, _, h⟩
    obtain ⟨t, r, ow, rfl, hp, ho⟩ := h H0.out
    have HI : Hid (PaI w w1 ow t r rows rows) := ⟨hp, hb1, ho⟩
    have HOK := Lib.hid hp.t.ok
    clear h hb1 hp ho HBo
    go_wp2_with fail
    refine (simple_any ow w1 t rows HI.out.p.t id).mono ?_
    rintro e w2 ⟨rfl, ow2, hk2, ht2⟩
    have HI2 := Lib.hid (HI.out.putT hk2 ht2)
    have HTW : Hid ((simpP rows id).err = 0 → simpP (simpP rows id).rows (simpP rows id).id = ⟨(simpP rows id).rows, (simpP rows id).id, 0⟩) := simpP_twice HOK.out
    have HRS := Lib.hid (refSimple_any 2 ow2 w2 r rows HI2.out.p.r id)
    clear hk2 ht2 HI
    generalize simpP rows id = p at *
    go_wp2_with fail
    refine HRS.out.mono ?_
    rintro e w3 ⟨rfl, ow3, hk3, ht3⟩
    have HI3 := Lib.hid (HI2.out.putR hk3 ht3)
    clear hk3 ht3 HI2 HRS
    by_cases hz : p.err = 0
    · have HT2 := HTW.out hz
      have HT2 := Lib.hid HT2
      rw [hz]
      clear hz HTW
      go_wp2_with (first
        | (go_at_call 18; refine (like_any 1 2 ow3 ow3 w3 t r p.rows HI3.out.p.t HI3.out.p.r).mono ?_; rintro e w4 ⟨rfl, hb4⟩; have HI4 := Lib.hid (HI3.out.below hb4); clear hb4)
        | (go_at_call 21; refine (len_any 1 ow6 _ _ p.rows HI6.out.p.t).mono ?_; rintro e w5 ⟨rfl, rfl⟩)
        | (go_at_call 21; refine (len_any 1 ow3 _ _ p.rows HI4.out.p.t).mono ?_; rintro e w5 ⟨rfl, rfl⟩)
        | (go_at_call 9; refine (heads07_any _).mono ?_; rintro e w9 ⟨rfl, hb9⟩; have HB := Lib.hid (below_trans HI6.out.bl hb9); clear hb9)
        | (go_at_call 19; refine (simple_any ow3 w4 t p.rows HI4.out.p.t p.id).mono ?_; rw [HT2.out]; rintro e w6 ⟨rfl, ow6, hk6, ht6⟩; have HI6 := Lib.hid (HI4.out.putT hk6 ht6); clear hk6 ht6))
      go_ret
      exact ⟨rfl, HB.out⟩
    · have hzb : (p.err != 0) = true := by simp [hz]
      clear HTW
      go_wp2_with (first
        | (go_at_call 18; refine (like_any 1 2 ow3 ow3 w3 t r p.rows HI3.out.p.t HI3.out.p.r).mono ?_; rintro e w4 ⟨rfl, hb4⟩; have HI4 := Lib.hid (HI3.out.below hb4); clear hb4)
        | (go_at_call 9; refine (heads07_any _).mono ?_; rintro e w9 ⟨rfl, hb9⟩; have HB := Lib.hid (below_trans HI4.out.bl hb9); clear hb9))
      go_ret
      exact ⟨rfl, HB.out⟩
  · have H0 := Lib.hid h0
    clear h0
    go_enter Try.func5, Try.ntmps5
    go_wp2_with (first
      | (go_at_call 7; refine HBo.out.mono ?_; rintro e w1 ⟨hb1, h, _⟩; obtain rfl := h H0.out; have HB1 := Lib.hid hb1; clear h hb1)
      | (go_at_call 9; refine (heads07_any _).mono ?_; rintro e w9 ⟨rfl, hb9⟩; have HB := Lib.hid (below_trans HB1.out hb9); clear hb9))
    go_ret
    exact ⟨rfl, HB.out⟩

end Go.Dk

