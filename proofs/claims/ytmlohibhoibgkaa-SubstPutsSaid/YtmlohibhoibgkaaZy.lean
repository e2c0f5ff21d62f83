/- SubstPuts, walked. -/
import Derived.Test.YtmlohibhoibgkaaZv
import Derived.Test.YtmlohibhoibgkaaZa
import Derived.Test.YtmlohibhoibgkaaEe
namespace Go.Dk
open Go.RowKit Go.Maps Go.MapKept
open Go.Proofs hiding intOf

theorem own_lit0H (w : World) (e : TypeId) : (w.alloc (.cells #[] e)).ownsRow w.heap.size e 2 (.slice (some ⟨w.heap.size, 0, none⟩) 0 0) 0 [] :=
  ⟨rfl, .inr ⟨w.heap.size, 0, #[], rfl, Nat.le_refl _, heap_alloc_new' _ _ rfl, Nat.le_refl _, by decide, rfl, rfl⟩⟩
theorem hy_one (l : List HY) : ∀ y ∈ hyCells l, y.oneCell' = true := by
  intro y hy
  unfold hyCells at hy
  obtain ⟨x, _, hx⟩ := List.mem_flatMap.1 hy
  simp [HY.cells] at hx
  rcases hx with rfl | rfl <;> rfl

theorem PaI.rdR {w W W' : World} {ow ow' : Own} {t r : Value} {xs ys : List ND} (h : PaI w W ow t r xs ys) (hk : Kept 2 ow W ow' W') : Below w.heap.size w W' :=
  h.bl.trans (hk.below h.bl.size (fun b hb => by rw [h.lo b hb]; decide))
def re4 (ow : Own) (w : World) : Own := fun b => if b < w.heap.size then ow b else 4
theorem PaI.re {w W W' : World} {ow : Own} {t r : Value} {xs ys : List ND} (h : PaI w W ow t r xs ys) (hb : Below W.heap.size W W') : PaI w W' (re4 ow W) t r xs ys := by
  have hk : ∀ c, Kept c ow W (re4 ow W) W' := fun c => hb.kept_ow.recolour (fun b hb => by simp [re4, hb])
  refine ⟨⟨h.p.t.kept (hk 3) (by decide), h.p.r.kept (hk 3) (by decide)⟩, below_trans h.bl hb, fun b hlt => ?_⟩
  unfold re4
  rw [if_pos (Nat.lt_of_lt_of_le hlt h.bl.size)]
  exact h.lo b hlt

def TrueQ (w : World) (e : Ending) (w' : World) : Prop := e = .returned (.bool true) ∧ Below w.heap.size w w'

set_option maxRecDepth 100000 in
set_option maxHeartbeats 2000000 in
theorem substPuts_any (w : World) (v : Value) (rows : List ND) (hn : ∀ n ∈ rows, n.name.size ≤ maxLen) (hr : Rd w v rows.length 4 (nodeCells rows)) (hm : rows.length ≤ maxLen) (hl : rows.length * 40 ≤ 140737488355328) (id : Int)
    (v1 : Value) (l1 : List HY) (hn1 : ∀ x ∈ l1, x.name.size ≤ maxLen) (hv1 : Rd w v1 l1.length 2 (hyCells l1)) (hl1 : l1.length * 24 ≤ 140737488355328) (old fill : Int) :
    Calls Try.prog 6 #[v, .int .i64 id, v1, .int .i64 old, .int .i64 fill] w (TrueQ w) := by
  have HBo := Lib.hid (both_any w v rows hn hr hm hl)
  have HV1 := Lib.hid hv1; have HN1 := Lib.hid hn1; have HL1 := Lib.hid hl1
  obtain ⟨va, vc, rfl⟩ := hr.slice
  obtain ⟨v1a, v1c, rfl⟩ := hv1.slice
  clear hr hn hv1 hn1 hm hl hl1
  by_cases h0 : fromE [] rows = 0
  · have H0 := Lib.hid h0
    clear h0
    go_enter Try.func6, Try.ntmps6
    go_wp2_with fail
    refine HBo.out.mono ?_
    rintro e w1 ⟨hb1, _, h⟩
    obtain ⟨t, r, ow, rfl, hp, ho⟩ := h H0.out
    have HI : Hid (PaI w w1 ow t r rows rows) := ⟨hp, hb1, ho⟩
    clear h hb1 hp ho HBo
    have hl1 := HL1.out
    go_wp2_with (at_builtin; refine wp_append rfl (.tmp 29) (.tmp 30) 23 rfl w1.heap.size 38 _ 2 24 Try.underlying23 infoHyp rfl (by decide) (by decide) _ 0 [] rfl (own_lit0H _ _) _ l1.length (hyCells l1) rfl (HV1.out.below (below_trans HI.out.bl (below_alloc _ _))) (hy_one l1) (by omega) (by simp) ?_; intro v2 w2 hown2 hgr2 hat2 hnil2)
    have hown2' := hown2
    rw [Nat.zero_add, List.nil_append] at hown2'
    have hb2 : Below w1.heap.size w1 w2 := (below_alloc w1 (.cells #[] 38)).grown hgr2 (by simp) (fun k hk => ((own_lit0H w1 38).lt k hk).1)
    have HI2 := Lib.hid (HI.out.re hb2)
    have HO2 := Lib.hid hown2'
    have HC2 : Hid (∀ g, v2.ownBlock = some g → re4 ow w1 g = 4) := fun g hg => by
      have := (hown2'.lt g hg).1
      unfold re4
      rw [if_neg (by omega)]
    obtain ⟨a2, c2, rfl⟩ := own_slice hown2'
    clear hown2 hgr2 hat2 hnil2 hown2' hb2 HI
    -- Put
    refine (put07_any (re4 ow w1) w2 t _ rows HI2.out.p.t id l1 HN1.out (rd_own HO2.out) (by omega)).mono ?_
    rintro e w3 ⟨rfl, ow3, hk3, ht3⟩
    have HI3 := Lib.hid (HI2.out.putT hk3 ht3)
    have HO3 := Lib.hid (own_keptC HO2.out hk3 (fun g hg => by rw [HC2.out g hg]; decide))
    have HC3 : Hid (∀ g, (Value.slice a2 l1.length c2).ownBlock = some g → ow3 g = 4) := fun g hg => (hk3.own g (HO2.out.lt g hg).2).trans (HC2.out g hg)
    clear hk3 ht3 HO2 HC2
    have HRP := Lib.hid (refPut07_any 2 ow3 w3 r rows HI3.out.p.r id (.slice v1a l1.length v1c) l1 HN1.out (fun ow' W hk => HV1.out.below (HI3.out.rdR hk)) (by omega))
    clear HI2
    generalize putP rows id l1 = p1 at *
    go_wp2_with fail
    refine HRP.out.mono ?_
    rintro e w4 ⟨rfl, ow4, hk4, ht4⟩
    have HI4 := Lib.hid (HI3.out.putR hk4 ht4)
    have HO4 := Lib.hid (own_keptC HO3.out hk4 (fun g hg => by rw [HC3.out g hg]; decide))
    have HC4 : Hid (∀ g, (Value.slice a2 l1.length c2).ownBlock = some g → ow4 g = 4) := fun g hg => (hk4.own g (HO3.out.lt g hg).2).trans (HC3.out g hg)
    clear hk4 ht4 HO3 HC3 HI3 HRP
    go_wp2_with fail
    refine (like_any 1 2 ow4 ow4 w4 t r p1.rows HI4.out.p.t HI4.out.p.r).mono ?_
    rintro e w5 ⟨rfl, hb5⟩
    have HI5 := Lib.hid (HI4.out.below hb5)
    have HO5 := Lib.hid (own_belowC HO4.out hb5)
    clear hb5 HI4 HO4
    go_wp2_with fail
    refine (hyps_any w5 _ _ l1 l1 (rd_own HO5.out) (HV1.out.below HI5.out.bl) (by omega) (by omega)).mono ?_
    rw [decide_eq_true rfl]
    rintro e w6 ⟨rfl, hb6⟩
    have HI6 := Lib.hid (HI5.out.below hb6)
    clear hb6 HI5 HO5 HC4
    -- Replace
    go_wp2_with fail
    refine (replace_any ow4 w6 t p1.rows HI6.out.p.t id old fill).mono ?_
    rintro e w7 ⟨rfl, ow7, hk7, ht7⟩
    have HI7 := Lib.hid (HI6.out.putT hk7 ht7)
    clear hk7 ht7 HI6
    have HRP := Lib.hid (refReplace_any 2 ow7 w7 r p1.rows HI7.out.p.r id old fill)
    generalize replP p1.rows id old fill = p2 at *
    go_wp2_with fail
    refine HRP.out.mono ?_
    rintro e w8 ⟨rfl, ow8, hk8, ht8⟩
    have HI8 := Lib.hid (HI7.out.putR hk8 ht8)
    clear hk8 ht8 HI7 HRP
    go_wp2_with fail
    refine (like_any 1 2 ow8 ow8 w8 t r p2.rows HI8.out.p.t HI8.out.p.r).mono ?_
    rintro e w9 ⟨rfl, hb9⟩
    have HI9 := Lib.hid (HI8.out.below hb9)
    clear hb9 HI8
    -- Frame
    have HNM : Hid (∃ nm : ByteArray, nm.size ≤ maxLen ∧ (l1 = [] ∧ nm = ⟨#[]⟩ ∨ ∃ x, l1[0]? = some x ∧ x.name = nm)) := by
      cases hl0 : l1 with
      | nil => exact ⟨⟨#[]⟩, by decide, .inl ⟨rfl, rfl⟩⟩
      | cons x tl => exact ⟨x.name, HN1.out x (by rw [hl0]; simp), .inr ⟨x, by simp, rfl⟩⟩
    obtain ⟨nm, hns, hnm⟩ := HNM.out
    have HNS := Lib.hid hns
    clear HNM hns
    rcases hnm with ⟨hnil, rfl⟩ | ⟨x, hx0, rfl⟩
    · have hz : l1.length = 0 := by rw [hnil]; rfl
      clear hnil
      go_wp2_with fail
      refine (frame07_any ow8 w9 t p2.rows HI9.out.p.t id fill ⟨#[]⟩ HNS.out).mono ?_
      rintro e w10 ⟨rfl, ow10, hk10, ht10⟩
      have HI10 := Lib.hid (HI9.out.putT hk10 ht10)
      clear hk10 ht10 HI9
      have HRP := Lib.hid (refFrame_any 2 ow10 w10 r p2.rows HI10.out.p.r id fill ⟨#[]⟩ HNS.out)
      generalize frameP p2.rows id ⟨#[]⟩ fill = p3 at *
      go_wp2_with fail
      refine HRP.out.mono ?_
      rintro e w11 ⟨rfl, ow11, hk11, ht11⟩
      have HI11 := Lib.hid (HI10.out.putR hk11 ht11)
      clear hk11 ht11 HI10 HRP
      go_wp2_with (first
        | (go_at_call 18; refine (like_any 1 2 ow11 ow11 w11 t r p3.rows HI11.out.p.t HI11.out.p.r).mono ?_; rintro e w12 ⟨rfl, hb12⟩; have HI12 := Lib.hid (HI11.out.below hb12); clear hb12)
        | (go_at_call 9; refine (heads07_any _).mono ?_; rintro e w9 ⟨rfl, hb9⟩; have HB := Lib.hid (below_trans HI12.out.bl hb9); clear hb9))
      go_ret
      exact ⟨rfl, HB.out⟩
    · obtain ⟨b, o, c', y, e1, y0, y1, hy⟩ := hy_at (HV1.out.below HI9.out.bl) (k := 0) ((List.getElem?_eq_some_iff.1 hx0).1)
      cases e1
      obtain rfl : x = y := by rw [hx0] at hy; exact Option.some.inj hy
      have hpos : 0 < (l1.length : Int) := by have := (List.getElem?_eq_some_iff.1 hx0).1; omega
      rw [show o + 0 * 2 = o by omega] at y0
      obtain ⟨xn, xf⟩ := x
      simp only at y0 HNS
      clear hy hx0 y1
      go_wp2_with fail
      refine (frame07_any ow8 w9 t p2.rows HI9.out.p.t id fill xn HNS.out).mono ?_
      rintro e w10 ⟨rfl, ow10, hk10, ht10⟩
      have HI10 := Lib.hid (HI9.out.putT hk10 ht10)
      clear hk10 ht10 HI9
      have HRP := Lib.hid (refFrame_any 2 ow10 w10 r p2.rows HI10.out.p.r id fill xn HNS.out)
      generalize frameP p2.rows id xn fill = p3 at *
      go_wp2_with fail
      refine HRP.out.mono ?_
      rintro e w11 ⟨rfl, ow11, hk11, ht11⟩
      have HI11 := Lib.hid (HI10.out.putR hk11 ht11)
      clear hk11 ht11 HI10 HRP
      go_wp2_with (first
        | (go_at_call 18; refine (like_any 1 2 ow11 ow11 w11 t r p3.rows HI11.out.p.t HI11.out.p.r).mono ?_; rintro e w12 ⟨rfl, hb12⟩; have HI12 := Lib.hid (HI11.out.below hb12); clear hb12)
        | (go_at_call 9; refine (heads07_any _).mono ?_; rintro e w9 ⟨rfl, hb9⟩; have HB := Lib.hid (below_trans HI12.out.bl hb9); clear hb9))
      go_ret
      exact ⟨rfl, HB.out⟩
  · have H0 := Lib.hid h0
    clear h0
    go_enter Try.func6, Try.ntmps6
    go_wp2_with (first
      | (go_at_call 7; refine HBo.out.mono ?_; rintro e w1 ⟨hb1, h, _⟩; obtain rfl := h H0.out; have HB1 := Lib.hid hb1; clear h hb1)
      | (go_at_call 9; refine (heads07_any _).mono ?_; rintro e w9 ⟨rfl, hb9⟩; have HB := Lib.hid (below_trans HB1.out hb9); clear hb9))
    go_ret
    exact ⟨rfl, HB.out⟩

end Go.Dk

