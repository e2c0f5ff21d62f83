/- The document's without, Less. -/
import Derived.Test.YtfldpjacgeoegaaGreatTe
namespace Go.Dk
open Go.RowKit Go.Maps Go.MapKept
open Go.Proofs hiding intOf

/-- The marks, and what is left so far. -/
structure WiI (w W : World) (m : Nat) (bs : List Bool) (v : Value) (l : List Int) : Prop where
  row : RowB w W m bs
  own : W.ownsRow w.heap.size 3 1 v l.length (ints l)
theorem WiI.ne {w W : World} {m : Nat} {bs : List Bool} {v : Value} {l : List Int} (h : WiI w W m bs v l) (hm : 0 < m) : v.ownBlock ≠ some w.heap.size := by
  obtain ⟨g, cap, cur, e, hb, hg, _⟩ := (h.row.own.2).resolve_left (by rintro ⟨e, _⟩; cases e)
  cases e
  exact own_ne h.own hg (by intro cur fr e; cases e)
theorem WiI.mark {w W : World} {m : Nat} {bs : List Bool} {v : Value} {l : List Int} (h : WiI w W m bs v l) (hm : 0 < m) (k : Nat) : WiI w (W.setCell ⟨w.heap.size, k, none⟩ (.bool true)) m (bs.set k true) v l :=
  ⟨h.row.set k, h.own.kept (h.row.own.stored k (.bool true)).2 (.inr (h.ne hm))⟩
theorem WiI.below {w W W' : World} {m : Nat} {bs : List Bool} {v : Value} {l : List Int} (h : WiI w W m bs v l) (hb : Below W.heap.size W W') : WiI w W' m bs v l :=
  ⟨⟨own_below h.row.own hb, below_trans h.row.bl hb⟩, own_below h.own hb⟩
theorem WiI.add {w W W0 W' : World} {m : Nat} {bs : List Bool} {v v' : Value} {l : List Int} {x : Int} (h : WiI w W m bs v l) (hm : ∀ q, v.ownBlock = some q → q ≠ w.heap.size) (hb : Below W.heap.size W W0) (hown : W'.ownsRow w.heap.size 3 1 v' (l.length + 1) (ints l ++ [.int .i64 x])) (hg : W0.grownBy W' v.ownBlock) : WiI w W' m bs v' (l ++ [x]) := by
  refine ⟨⟨(own_below h.row.own hb).kept hg ?_, (below_trans h.row.bl hb).grown hg (Nat.le_trans h.row.bl.size hb.size) (fun q hq => (h.own.lt q hq).1)⟩, ?_⟩
  · right
    intro e
    exact hm w.heap.size (by simpa [Value.ownBlock] using e.symm) rfl
  · rw [ints_snocA] at hown
    rw [List.length_append]; exact hown

set_option maxRecDepth 100000 in
set_option maxHeartbeats 4000000 in
theorem refWithout_any (w : World) (va vb : Value) (xs ys : List Int) (ha : Rd w va xs.length 1 (ints xs)) (hb : Rd w vb ys.length 1 (ints ys)) (hn : xs.length * 8 ≤ 140737488355328) (hm : ys.length * 8 ≤ 140737488355328) :
    Calls Tryz.prog 48 #[va, vb] w fun e w' => ∃ v', e = .returned v' ∧ w'.ownsRow w.heap.size 3 1 v' (withoutL xs ys).length (ints (withoutL xs ys)) ∧ Below w.heap.size w w' := by
  have HX := Lib.hid ha; have HY := Lib.hid hb
  obtain ⟨a0, ac, rfl⟩ := ha.slice
  obtain ⟨b0, bc, rfl⟩ := hb.slice
  clear ha hb
  obtain ⟨inf, hi1, hi2, hi3, hi4⟩ := infoBool
  obtain ⟨w1, hmk, hown, hgr⟩ := run_make_full (P := Tryz.prog) w w.heap.size 93 4 inf (.bool false) 1 Tryz.underlying93 hi1 hi2 hi3 .i64 .i64 ys.length (by rw [hi4]; omega) (by unfold maxLen; omega) (Nat.le_refl _)
  have HI : Hid (WiI w w1 ys.length (List.replicate ys.length false) (.slice none 0 0) []) := ⟨⟨by
    have : (madeCells (Value.bool false).cells (ys.length * 1)).toList = bools (List.replicate ys.length false) := by
      rw [show (Value.bool false).cells = #[.bool false] from rfl, toList_madeCells_one]
      simp [bools]
    rw [← this]; exact hown, (Below.refl _ _).grown hgr (Nat.le_refl _) (by intro k hk; cases hk)⟩, World.ownsRow_nil _ _ _ _⟩
  clear hown hgr hi1 hi2 hi3 hi4
  go_enter Tryz.func48, Tryz.ntmps48
  go_wp2_with fail
  go_loopw [6, 7] (fun v i W => ∃ (j : Nat) (bs : List Bool), j ≤ xs.length ∧ i = .int .i64 (j : Int) ∧ Used xs ys j bs ∧ WiI w W ys.length bs v (withoutL (xs.take j) ys) ∧ ∀ q, v.ownBlock = some q → q ≠ w.heap.size) (fun _ i _ => xs.length - (intOf i).toNat)
  case atStart => exact ⟨0, _, Nat.zero_le _, rfl, Used.start xs ys, HI.out, fun q hq => by simp [Value.ownBlock] at hq⟩
  case round =>
    obtain ⟨j, bs, hj, rfl, hu, hI, hvq⟩ := hrel
    have HU := Lib.hid hu; have HJ := Lib.hid hI; have HVQ := Lib.hid hvq
    have hll := without_le (xs.take j) ys
    have htl : (xs.take j).length ≤ j := List.length_take_le _ _
    obtain ⟨oa, oc, hoo⟩ := own_slice hI.own
    subst hoo
    clear hu hvq
    by_cases hlt : j < xs.length
    · obtain ⟨b, o, c1, x, he, hc1, hxk⟩ := ints_at (HX.out.below hI.row.bl) hlt
      cases he
      have HXK := Lib.hid hxk
      have hji : (j : Int) < (xs.length : Int) := by omega
      clear hI hxk
      go_wp2_with fail
      go_loopw [8, 9] (fun gv i W => ∃ (k : Nat) (bs' : List Bool), k ≤ ys.length ∧ i = .int .i64 (k : Int) ∧ WiI w W ys.length bs' (.slice oa (withoutL (xs.take j) ys).length oc) (withoutL (xs.take j) ys) ∧
        ((gv = .bool false ∧ bs' = bs ∧ ∀ q : Nat, q < k → ys[q]? = some x → bs[q]? = some true) ∨ (gv = .bool true ∧ ∃ q : Nat, ys[q]? = some x ∧ bs[q]? = some false ∧ bs' = bs.set q true))) (fun _ i _ => ys.length - (intOf i).toNat)
      case atStart => exact ⟨0, bs, Nat.zero_le _, rfl, HJ.out, .inl ⟨rfl, rfl, fun q hq => by omega⟩⟩
      case round =>
        obtain ⟨k, bs', hk, rfl, hI2, hg⟩ := hrel
        have HK := Lib.hid hI2
        rcases hg with ⟨rfl, rfl, hall⟩ | ⟨rfl, q, hq1, hq2, rfl⟩
        · have HAL := Lib.hid hall
          clear hall
          by_cases hlk : k < ys.length
          · obtain ⟨b', o', c2, y, he, hc2, hyk⟩ := ints_at (HY.out.below hI2.row.bl) hlk
            cases he
            have HYK := Lib.hid hyk
            have hki : (k : Int) < (ys.length : Int) := by omega
            obtain ⟨m, hbk⟩ : ∃ m, bs'[k]? = some m := ⟨_, List.getElem?_eq_getElem (by rw [HU.out.len]; exact hlk)⟩
            have HBK := Lib.hid hbk
            have d2 := hI2.row.cell hbk HU.out.len
            have f2 := hI2.row.frozen k
            obtain ⟨b3, o3, c3, x3, he, hc3, hx3⟩ := ints_at (HX.out.below hI2.row.bl) hlt
            cases he
            obtain rfl : x3 = x := by rw [HXK.out] at hx3; exact (Option.some.inj hx3).symm
            clear hbk hyk hI2 hx3
            cases m with
            | true =>
              go_wp2_with fail
              go_quiet (fail)
              go_wp2_with fail
              refine ⟨⟨k + 1, bs', by omega, by go_num, HK.out.below (below_drewN _ _), .inl ⟨rfl, rfl, fun q hq hy => ?_⟩⟩, by simp [intOf]; omega⟩
              rcases Nat.lt_or_ge q k with h | h
              · exact HAL.out q h hy
              · obtain rfl : q = k := by omega
                exact HBK.out
            | false =>
              by_cases hyx : y = x3
              · have gy : (y == x3) = true := by simpa using hyx
                have HYX := Lib.hid hyx
                clear hyx
                go_wp2_with fail
                go_quiet (fail)
                go_wp2_with fail
                refine ⟨⟨k + 1, bs'.set k true, by omega, by go_num, ?_, .inr ⟨rfl, k, HYX.out ▸ HYK.out, HBK.out, rfl⟩⟩, by simp [intOf]; omega⟩
                exact (HK.out.below (below_drewN _ _)).mark (by omega) k
              · have gy : (y == x3) = false := by simpa using hyx
                have HYX := Lib.hid hyx
                clear hyx
                go_wp2_with fail
                go_quiet (fail)
                go_wp2_with fail
                refine ⟨⟨k + 1, bs', by omega, by go_num, HK.out.below (below_drewN _ _), .inl ⟨rfl, rfl, fun q hq hy => ?_⟩⟩, by simp [intOf]; omega⟩
                rcases Nat.lt_or_ge q k with h | h
                · exact HAL.out q h hy
                · obtain rfl : q = k := by omega
                  rw [HYK.out] at hy
                  exact absurd (Option.some.inj hy) HYX.out
          · obtain rfl : k = ys.length := by omega
            obtain ⟨h1, h2⟩ := HU.out.left HXK.out (fun k hk => HAL.out k (List.getElem?_eq_some_iff.1 hk).1 hk)
            have HU2 := Lib.hid h1; have HW2 := Lib.hid h2
            obtain ⟨b3, o3, c3, x3, he, hc3, hx3⟩ := ints_at (HX.out.below hI2.row.bl) hlt
            cases he
            obtain rfl : x3 = x := by rw [HXK.out] at hx3; exact (Option.some.inj hx3).symm
            clear h1 h2 hx3 hI2
            go_wp2_with (at_builtin; refine wp_append rfl (.tmp 50) (.tmp 55) 33 rfl w.heap.size 3 _ 1 8 Tryz.underlying33 infoInt rfl (by decide) (by decide) _ (withoutL (xs.take j) ys).length (ints (withoutL (xs.take j) ys)) rfl (own_below HK.out.own (below_alloc _ _)) _ 1 [.int .i64 x3] rfl (rd_one _ _ _) (by simp [Value.oneCell']) (by omega) (by have := HK.out.row.bl.size; simp; omega) ?_; intro v5 w5 hown5 hgr5 hat5 hnil5; have HF := Lib.hid (HK.out.add HVQ.out (below_alloc _ _) hown5 hgr5); have HQ : Hid (∀ q, v5.ownBlock = some q → q ≠ w.heap.size) := (fun q hq => by rcases hat5 with e | e; exact HVQ.out q (e ▸ hq); rw [e] at hq; cases hq; have := HK.out.row.bl.size; have h3 := (HK.out.row.own.lt _ rfl).2; simp at h3 ⊢; omega); clear hown5 hgr5 hat5 hnil5)
            exact ⟨⟨j + 1, bs', by omega, by go_num, HU2.out, by rw [HW2.out]; exact HF.out, HQ.out⟩, by simp [intOf]; omega⟩
        · obtain ⟨h1, h2⟩ := HU.out.take HXK.out hq1 hq2
          have HU2 := Lib.hid h1; have HW2 := Lib.hid h2
          clear h1 h2 hq1 hq2 hI2
          by_cases hlk : k < ys.length
          · have gk : decide ((k : Int) < (ys.length : Int)) = true := by simp; omega
            go_wp2_with fail
            exact ⟨⟨j + 1, _, by omega, by go_num, HU2.out, by rw [HW2.out]; exact HK.out, HVQ.out⟩, by simp [intOf]; omega⟩
          · have gk : decide ((k : Int) < (ys.length : Int)) = false := by simp; omega
            go_wp2_with fail
            exact ⟨⟨j + 1, _, by omega, by go_num, HU2.out, by rw [HW2.out]; exact HK.out, HVQ.out⟩, by simp [intOf]; omega⟩
    · obtain rfl : j = xs.length := by omega
      have hO := HJ.out
      have HT : Hid (xs.take xs.length = xs) := List.take_length
      have HOO := Lib.hid hO
      clear hO hI
      go_wp2_with fail
      go_ret
      refine ⟨_, rfl, ?_, HOO.out.row.bl⟩
      have := HOO.out.own
      rw [HT.out] at this ⊢
      exact this

end Go.Dk

