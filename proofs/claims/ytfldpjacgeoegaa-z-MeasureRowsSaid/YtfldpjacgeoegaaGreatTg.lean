/- The document's Less; the walk of MeasureRows. -/
import Derived.Test.YtfldpjacgeoegaaGreatTf
import Derived.Test.YtfldpjacgeoegaaGreatYr
namespace Go.Dk
open Go.RowKit Go.Maps Go.MapKept
open Go.Proofs hiding intOf

theorem any_snoc {l : List Int} {k : Nat} {y : Int} (h : l[k]? = some y) (p : Int → Bool) : (l.take (k + 1)).any p = ((l.take k).any p || p y) := by
  rw [List.take_add_one, h]; simp
theorem all_snoc {l : List Int} {k : Nat} {y : Int} (h : l[k]? = some y) (p : Int → Bool) : (l.take (k + 1)).all p = ((l.take k).all p && p y) := by
  rw [List.take_add_one, h]; simp
theorem all_not {l : List Int} {k : Nat} {y : Int} (h : l[k]? = some y) {p : Int → Bool} (hp : p y = false) : l.all p = false := by
  rw [List.all_eq_false]; exact ⟨y, List.mem_of_getElem? h, by rw [hp]; simp⟩

set_option maxRecDepth 100000 in
set_option maxHeartbeats 4000000 in
theorem refLess_any (w : World) (va vb : Value) (xs ys : List Int) (ha : Rd w va xs.length 1 (ints xs)) (hb : Rd w vb ys.length 1 (ints ys)) (hn : xs.length * 8 ≤ 140737488355328) (hm : ys.length * 8 ≤ 140737488355328) :
    Calls Tryz.prog 22 #[va, vb] w fun e w' => e = .returned (.bool (lessL xs ys)) ∧ Below w.heap.size w w' := by
  have HX := Lib.hid ha; have HY := Lib.hid hb
  obtain ⟨a0, ac, rfl⟩ := ha.slice
  obtain ⟨b0, bc, rfl⟩ := hb.slice
  clear ha hb
  have HD := Lib.hid (dmB_eq xs ys)
  have lx := without_le xs ys
  have ly := without_le ys xs
  go_enter Tryz.func22, Tryz.ntmps22
  go_wp2_with fail
  refine (refWithout_any w _ _ xs ys HX.out HY.out hn hm).mono ?_
  rintro e w1 ⟨v1, rfl, ho1, hb1⟩
  have HB1 := Lib.hid hb1
  have HO1 := Lib.hid ho1
  obtain ⟨a1, c1, hv1⟩ := own_slice ho1
  subst hv1
  clear ho1 hb1
  go_wp2_with fail
  refine (refWithout_any w1 _ _ ys xs (HY.out.below HB1.out) (HX.out.below HB1.out) hm hn).mono ?_
  rintro e w2 ⟨v2, rfl, ho2, hb2⟩
  have HB2 := Lib.hid (below_trans HB1.out hb2)
  have HR1 := Lib.hid (rd_own (own_below HO1.out hb2))
  have HR2 := Lib.hid (rd_own ho2)
  obtain ⟨a2, c2, hv2⟩ := own_slice ho2
  subst hv2
  clear ho2 hb2
  unfold dmB at HD
  generalize withoutL xs ys = X at *
  generalize withoutL ys xs = Y at *
  cases hY : Y with
  | nil =>
    subst hY
    simp only [List.length_nil] at *
    go_wp2_with fail
    go_ret
    exact ⟨ret_bool (by rw [← HD.out]; rfl), HB2.out⟩
  | cons y0 Y0 =>
    have HYE : Hid (Y.isEmpty = false) := by rw [Hid, hY]; rfl
    rw [← hY]
    have hpos : 0 < Y.length := by rw [hY]; simp
    have gY : ((Y.length : Int) == 0) = false := by rw [beq_eq_false_iff_ne]; omega
    clear hY
    go_wp2_with fail
    go_loopw [7] (fun i W => ∃ j : Nat, j ≤ X.length ∧ i = .int .i64 (j : Int) ∧ (X.take j).all (fun u => Y.any fun v => decide (u < v)) = true ∧ Below w2.heap.size w2 W) (fun i _ => X.length - (intOf i).toNat)
    case atStart => exact ⟨0, Nat.zero_le _, rfl, by simp, Below.refl _ _⟩
    case round =>
      obtain ⟨j, hj, rfl, hall, hb⟩ := hrel
      have HA := Lib.hid hall; have HB := Lib.hid hb
      clear hall hb
      by_cases hlt : j < X.length
      · obtain ⟨xb, xo, xc, x, he, hc1, hxk⟩ := ints_at (HR1.out.below HB.out) hlt
        cases he
        have HXK := Lib.hid hxk
        have hji : (j : Int) < (X.length : Int) := by omega
        clear hxk
        go_wp2_with fail
        go_loopw [8, 9] (fun gv i W => ∃ k : Nat, k ≤ Y.length ∧ i = .int .i64 (k : Int) ∧ gv = .bool ((Y.take k).any fun v => decide (x < v)) ∧ Below w2.heap.size w2 W) (fun _ i _ => Y.length - (intOf i).toNat)
        case atStart => exact ⟨0, Nat.zero_le _, rfl, by simp, HB.out⟩
        case round =>
          obtain ⟨k, hk, rfl, rfl, hb⟩ := hrel
          have HC := Lib.hid hb
          clear hb
          by_cases hlk : k < Y.length
          · obtain ⟨yb, yo, yc, y, he, hc2, hyk⟩ := ints_at (HR2.out.below HC.out) hlk
            cases he
            obtain ⟨xb', xo', xc', x', he, hc3, hxk'⟩ := ints_at (HR1.out.below HC.out) hlt
            cases he
            obtain rfl : x' = x := by rw [HXK.out] at hxk'; exact (Option.some.inj hxk').symm
            have HS := Lib.hid (any_snoc hyk (fun v => decide (x' < v)))
            have hki : (k : Int) < (Y.length : Int) := by omega
            clear hyk hxk'
            generalize (Y.take k).any (fun v => decide (x' < v)) = f at *
            cases f with
            | true =>
              go_wp2_with fail
              go_quiet (fail)
              go_wp2_with fail
              exact ⟨⟨k + 1, by omega, by go_num, by rw [HS.out]; rfl, below_trans HC.out (below_drewN _ _)⟩, by simp [intOf]; omega⟩
            | false =>
              go_wp2_with fail
              go_quiet (fail)
              go_wp2_with fail
              exact ⟨⟨k + 1, by omega, by go_num, by rw [HS.out]; rfl, below_trans HC.out (below_drewN _ _)⟩, by simp [intOf]; omega⟩
          · obtain rfl : k = Y.length := by omega
            rw [List.take_length]
            have HS := Lib.hid (all_snoc HXK.out (fun u => Y.any fun v => decide (u < v)))
            cases hf : Y.any (fun v => decide (x < v)) with
            | true =>
              have HF := Lib.hid hf
              clear hf
              go_wp2_with fail
              exact ⟨⟨j + 1, by omega, by go_num, by rw [HS.out, HA.out, HF.out]; rfl, HC.out⟩, by simp [intOf]; omega⟩
            | false =>
              have HN : Hid (X.all (fun u => Y.any fun v => decide (u < v)) = false) := all_not HXK.out hf
              clear hf
              go_wp2_with fail
              go_ret
              exact ⟨ret_bool (by rw [← HD.out, HN.out]; simp), below_trans HB2.out HC.out⟩
      · obtain rfl : j = X.length := by omega
        have hA := HA.out
        rw [List.take_length] at hA
        have HAA := Lib.hid hA
        clear hA
        go_wp2_with fail
        go_ret
        exact ⟨ret_bool (by rw [← HD.out, HAA.out, HYE.out]; rfl), below_trans HB2.out HB.out⟩

theorem wL_same (rows : List ND) (zs : List Int) : decide (wL rows zs = wL rows zs) = true := by simp
theorem wL_le (rows : List ND) (zs : List Int) : (wL rows zs).length ≤ zs.length := by
  unfold wL
  split
  · rw [fall_length, wts_length]; exact Nat.le_refl _
  · simp

/-- append([]int{}, v...): in memory of its own. -/
theorem copied {w w7 : World} {v7 : Value} {n : Nat} {zs : List Int} (hown : w7.ownsRow w.heap.size 3 1 v7 (0 + n) ([] ++ ints zs)) (hgr : (w.alloc (.cells #[] 3)).grownBy w7 (Value.slice (some ⟨w.heap.size, 0, none⟩) 0 0).ownBlock) : w7.ownsRow w.heap.size 3 1 v7 n (ints zs) ∧ Below w.heap.size w w7 := by
  rw [Nat.zero_add, List.nil_append] at hown
  exact ⟨hown, (below_alloc w (.cells #[] 3)).grown hgr (by simp) (fun k hk => ((own_lit0 w 3 1).lt k hk).1)⟩

set_option maxRecDepth 100000 in
set_option maxHeartbeats 8000000 in
theorem measureRows_any (w : World) (v0 v1 v2 v3 : Value) (rows0 : List ND) (zs xs ys : List Int) (hn : ∀ n ∈ rows0, n.name.size ≤ maxLen) (hr : Rd w v0 rows0.length 4 (nodeCells rows0)) (hm : rows0.length ≤ maxLen) (hl : rows0.length * 40 ≤ 140737488355328)
    (h1 : Rd w v1 zs.length 1 (ints zs)) (h2 : Rd w v2 xs.length 1 (ints xs)) (h3 : Rd w v3 ys.length 1 (ints ys)) (l1 : zs.length * 8 ≤ reachBytes) (l2 : xs.length * 8 ≤ reachBytes) (l3 : ys.length * 8 ≤ reachBytes) :
    Calls Tryz.prog 4 #[v0, v1, v2, v3] w fun e w' => e = .returned (.bool true) ∧ Below w.heap.size w w' := by
  have HT := Lib.hid (tables_any w v0 rows0 hn hr hm hl)
  generalize useR rows0 = rows at HT
  obtain ⟨a, c, rfl⟩ := hr.slice
  unfold reachBytes at l1 l2 l3
  have m1 : zs.length * 8 ≤ 140737488355328 := by omega
  have m2 : xs.length * 8 ≤ 140737488355328 := by omega
  have m3 : ys.length * 8 ≤ 140737488355328 := by omega
  have HM : Hid (zs.length ≤ maxLen ∧ xs.length ≤ maxLen ∧ ys.length ≤ maxLen) := by unfold Hid maxLen; omega
  have H1 := Lib.hid h1; have H2 := Lib.hid h2; have H3 := Lib.hid h3
  obtain ⟨p1, c1, rfl⟩ := h1.slice
  obtain ⟨p2, c2, rfl⟩ := h2.slice
  obtain ⟨p3, c3, rfl⟩ := h3.slice
  clear hn hr hm hl h1 h2 h3
  go_enter Tryz.func4, Tryz.ntmps4
  go_wp2_with fail
  refine HT.out.mono ?_
  rintro e w1 ⟨t, r, ow, rfl, hp, hb1⟩
  have HP := Lib.hid hp
  have HX := Lib.hid hb1
  have HWL := Lib.hid (wL_le rows zs)
  clear HT hp hb1
  go_wp2_with (at_builtin; refine wp_append rfl (.tmp 24) (.tmp 25) 33 rfl w1.heap.size 3 _ 1 8 Tryz.underlying33 infoInt rfl (by decide) (by decide) _ 0 [] rfl (own_lit0 _ _ _) _ zs.length (ints zs) rfl (H1.out.below (below_trans HX.out (below_alloc _ _))) (ints_one _) (by omega) (by simp) ?_; intro v2 w2 hown2 hgr2 hat2 hnil2; obtain ⟨ho2, hb2⟩ := copied hown2 hgr2; have HO2 := Lib.hid ho2; have HB2 := Lib.hid (below_trans HX.out hb2); have HP2 := Lib.hid (HP.out.below hb2); obtain ⟨a2, c2', hv2⟩ := own_slice ho2; subst hv2; clear hown2 hgr2 hat2 hnil2 ho2 hb2)
  refine (weightsP_any 1 ow w2 t _ rows zs HP2.out.t (rd_own HO2.out) m1).mono ?_
  rintro e w3 ⟨v3, rfl, ho3, hb3⟩
  have HB3 := Lib.hid (below_trans HB2.out hb3)
  have HP3 := Lib.hid (HP2.out.below hb3)
  have HO23 := Lib.hid (own_below HO2.out hb3)
  have HO3 := Lib.hid ho3
  obtain ⟨a3, c3', hv3⟩ := own_slice ho3
  subst hv3
  clear ho3 hb3 HO2 HP2
  go_wp2_with fail
  refine (refWeights_any 2 ow w3 r _ rows zs HP3.out.r (H1.out.below HB3.out) m1).mono ?_
  rintro e w4 ⟨v4, rfl, ho4, hb4⟩
  have HB4 := Lib.hid (below_trans HB3.out hb4)
  have HO24 := Lib.hid (own_below HO23.out hb4)
  have HO34 := Lib.hid (own_below HO3.out hb4)
  have HO4 := Lib.hid ho4
  obtain ⟨a4, c4', hv4⟩ := own_slice ho4
  subst hv4
  clear ho4 hb4 HO23 HO3 HP3 HP
  go_wp2_with (first | (at_builtin; have _ := HO5.out; refine wp_append rfl (.tmp 42) (.tmp 43) 33 rfl w5.heap.size 3 _ 1 8 Tryz.underlying33 infoInt rfl (by decide) (by decide) _ 0 [] rfl (own_lit0 _ _ _) _ ys.length (ints ys) rfl (H3.out.below (below_trans HB5.out (below_alloc _ _))) (ints_one _) (by omega) (by simp) ?_; intro v6 w6 hown6 hgr6 hat6 hnil6; obtain ⟨ho6, hb6⟩ := copied hown6 hgr6; have HO6 := Lib.hid ho6; have HB6 := Lib.hid (below_trans HB5.out hb6); have HC6 := Lib.hid (below_trans HC5.out hb6); have HO56 := Lib.hid (own_below HO5.out hb6); obtain ⟨a6, c6, hv6⟩ := own_slice ho6; subst hv6; clear hown6 hgr6 hat6 hnil6 ho6 hb6) | (at_builtin; refine wp_append rfl (.tmp 39) (.tmp 40) 33 rfl w4.heap.size 3 _ 1 8 Tryz.underlying33 infoInt rfl (by decide) (by decide) _ 0 [] rfl (own_lit0 _ _ _) _ xs.length (ints xs) rfl (H2.out.below (below_trans HB4.out (below_alloc _ _))) (ints_one _) (by omega) (by simp) ?_; intro v5 w5 hown5 hgr5 hat5 hnil5; obtain ⟨ho5, hb5⟩ := copied hown5 hgr5; have HO5 := Lib.hid ho5; have HB5 := Lib.hid (below_trans HB4.out hb5); have HC5 := Lib.hid hb5; obtain ⟨a5, c5, hv5⟩ := own_slice ho5; subst hv5; clear hown5 hgr5 hat5 hnil5 ho5 hb5))
  refine (less_any w6 _ _ _ _ xs ys m2 m3 (rd_own HO56.out) (rd_own HO6.out)).mono ?_
  rintro e w7 ⟨rfl, hb7⟩
  have HB7 := Lib.hid (below_trans HB6.out hb7)
  have R2 := Lib.hid (rd_own (own_below HO24.out (below_trans HC6.out hb7)))
  have R3 := Lib.hid (rd_own (own_below HO34.out (below_trans HC6.out hb7)))
  have R4 := Lib.hid (rd_own (own_below HO4.out (below_trans HC6.out hb7)))
  have R5 := Lib.hid (rd_own (own_below HO56.out hb7))
  have R6 := Lib.hid (rd_own (own_below HO6.out hb7))
  have HC : Hid (Below w7.heap.size w7 w7) := Below.refl _ _
  clear hb7 HO24 HO34 HO4 HO56 HO6 HO5 HC5 HC6 HB6 HB5 HB4 HB3 HB2
  have HLS := Lib.hid (fun W h1 h2 => refLess_any W (.slice p2 xs.length c2) (.slice p3 ys.length c3) xs ys h1 h2 m2 m3)
  generalize lessL xs ys = ls at *
  generalize wE rows zs = er at *
  go_wp2_with (first
    | (go_at_call 11; refine (num06_any _ _).mono ?_; rintro e w' ⟨rfl, rfl⟩)
    | (go_at_call_of 21 (Value.slice a3 (wL rows zs).length c3'); refine (refInts_any _ _ _ _ _ (wL rows zs) (wL rows zs) (by have := HWL.out; have := HM.out.1; omega) (R3.out.below HC.out) (R4.out.below HC.out)).mono ?_; rintro e w8 ⟨rfl, hb8⟩; have HC := Lib.hid (below_trans HC.out hb8); clear hb8; rw [wL_same])
    | (go_at_call_of 21 (Value.slice a2 zs.length c2'); refine (refInts_any _ _ _ _ _ zs zs HM.out.1 (R2.out.below HC.out) (H1.out.below (below_trans HB7.out HC.out))).mono ?_; rintro e w8 ⟨rfl, hb8⟩; have HC := Lib.hid (below_trans HC.out hb8); clear hb8; rw [decide_eq_true (Eq.refl zs)])
    | (go_at_call_of 21 (Value.slice a5 xs.length c5); refine (refInts_any _ _ _ _ _ xs xs HM.out.2.1 (R5.out.below HC.out) (H2.out.below (below_trans HB7.out HC.out))).mono ?_; rintro e w8 ⟨rfl, hb8⟩; have HC := Lib.hid (below_trans HC.out hb8); clear hb8; rw [decide_eq_true (Eq.refl xs)])
    | (go_at_call_of 21 (Value.slice a6 ys.length c6); refine (refInts_any _ _ _ _ _ ys ys HM.out.2.2 (R6.out.below HC.out) (H3.out.below (below_trans HB7.out HC.out))).mono ?_; rintro e w8 ⟨rfl, hb8⟩; have HC := Lib.hid (below_trans HC.out hb8); clear hb8; rw [decide_eq_true (Eq.refl ys)])
    | (go_at_call 22; refine (HLS.out _ (H2.out.below (below_trans HB7.out HC.out)) (H3.out.below (below_trans HB7.out HC.out))).mono ?_; rintro e w8 ⟨rfl, hb8⟩; have HC := Lib.hid (below_trans HC.out hb8); clear hb8)
    | (go_at_call 12; refine (heads06_any _).mono ?_; rintro e w10 ⟨rfl, hb10⟩; have HC := Lib.hid (below_trans HC.out hb10); clear hb10))
  go_ret
  exact ⟨rfl, below_trans HB7.out HC.out⟩

end Go.Dk

