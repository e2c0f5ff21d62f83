/- Layer 7: the comparison of names and formulas. -/
import Derived.Test.YtmlohibhoibgkaaSz
import Derived.Test.YtmlohibhoibgkaaS
namespace Go.Dk
open Go.RowKit Go.Maps Go.MapKept
open Go.Proofs hiding intOf

theorem neHy (w : World) (x y : HY) : (binOp .neq 38 (.agg #[.string x.name, .int .i64 x.form]) (.agg #[.string y.name, .int .i64 y.form])).run Try.prog w = .ok (.bool (!decide (x = y))) w := by
  go_simp
  obtain ⟨a, b⟩ := x
  obtain ⟨a', b'⟩ := y
  simp only [HY.mk.injEq]
  by_cases h1 : a = a' <;> by_cases h2 : b = b' <;> simp [h1, h2, bytes_ext]
theorem take_same {l m : List HY} {j : Nat} {x : HY} (h : l.take j = m.take j) (h1 : l[j]? = some x) (h2 : m[j]? = some x) : l.take (j + 1) = m.take (j + 1) := by
  rw [List.take_add_one, List.take_add_one, h, h1, h2]

set_option maxRecDepth 100000 in
set_option maxHeartbeats 800000 in
theorem hyps_any (w : World) (v u : Value) (l m : List HY) (hv : Rd w v l.length 2 (hyCells l)) (hu : Rd w u m.length 2 (hyCells m)) (hl : l.length ≤ 9223372036854775807) (hm : m.length ≤ 9223372036854775807) :
    Calls Try.prog 17 #[v, u] w fun e w' => e = .returned (.bool (decide (l = m))) ∧ Below w.heap.size w w' := by
  have HV := Lib.hid hv
  have HU := Lib.hid hu
  obtain ⟨va, vc, rfl⟩ := hv.slice
  obtain ⟨ua, uc, rfl⟩ := hu.slice
  clear hv hu
  by_cases he : l.length = m.length
  · have hme : ((l.length : Int) == (m.length : Int)) = true := by simp [he]
    have HE := Lib.hid he
    go_enter Try.func17, Try.ntmps17
    go_wp2_with fail
    go_loopw [5] (fun i W => ∃ j : Nat, j ≤ l.length ∧ i = .int .i64 (j : Int) ∧ l.take j = m.take j ∧ Below w.heap.size w W) (fun i _ => l.length - (intOf i).toNat)
    case atStart => exact ⟨0, Nat.zero_le _, rfl, rfl, Below.refl _ _⟩
    case round =>
      obtain ⟨j, hj, rfl, ht, hb⟩ := hrel
      have HT := Lib.hid ht; have HB := Lib.hid hb
      clear ht hb
      by_cases hlt : j < l.length
      · obtain ⟨b, o, c1, x, e1, x0, x1, hx⟩ := hy_at (HV.out.below HB.out) hlt
        obtain ⟨b', o', c2, y, e2, y0, y1, hy⟩ := hy_at (HU.out.below HB.out) (show j < m.length by omega)
        cases e1; cases e2
        have hjl : (j : Int) < (l.length : Int) := by omega
        have hjm : (j : Int) < (m.length : Int) := by omega
        have HX := Lib.hid hx; have HY' := Lib.hid hy
        clear hx hy hme he
        have hq := fun W => neHy W x y
        obtain ⟨xn, xf⟩ := x
        obtain ⟨yn, yf⟩ := y
        simp only at x0 x1 y0 y1 hq
        go_wp2
        go_quiet (fail)
        go_wp2
        · rename_i hne
          go_ret
          have hF : decide (l = m) = false := by
            simp only [decide_eq_false_iff_not]
            intro e
            have h1 := HX.out
            rw [e, HY'.out] at h1
            simp only [Option.some.injEq, HY.mk.injEq] at h1
            obtain ⟨rfl, rfl⟩ := h1
            simp at hne
          exact ⟨ret_bool hF.symm, below_trans HB.out (below_drewN _ _)⟩
        · rename_i heq
          have h2 : xn = yn ∧ xf = yf := by simpa using heq
          obtain ⟨rfl, rfl⟩ := h2
          exact ⟨⟨j + 1, by omega, by go_num, take_same HT.out HX.out HY'.out, below_trans HB.out (below_drewN _ _)⟩, by simp [intOf]; omega⟩
      · have HF : Hid (decide (l = m) = true) := by
          unfold Hid
          simp only [decide_eq_true_eq]
          have := HT.out
          rwa [List.take_of_length_le (by omega), List.take_of_length_le (by have := HE.out; omega)] at this
        go_wp2
        go_ret
        exact ⟨ret_bool HF.out.symm, HB.out⟩
  · have hme : ((l.length : Int) == (m.length : Int)) = false := by simp; omega
    have HF : Hid (decide (l = m) = false) := by
      unfold Hid
      simp only [decide_eq_false_iff_not]
      intro e; exact he (by rw [e])
    go_enter Try.func17, Try.ntmps17
    go_wp2_with fail
    go_ret
    exact ⟨ret_bool HF.out.symm, Below.refl _ _⟩

end Go.Dk


/- The heads of the statements on layer 7: what comes, plain. -/
namespace Go.Dk
open Go.RowKit Go.Maps Go.MapKept
open Go.Proofs hiding intOf

def g3 : List ND := [⟨1, ⟨#[112]⟩, 0, 0⟩, ⟨1, ⟨#[113]⟩, 0, 0⟩, ⟨5, ⟨#[]⟩, 0, 1⟩]
def g4 : List ND := [⟨1, ⟨#[112]⟩, 0, 0⟩, ⟨1, ⟨#[113]⟩, 0, 0⟩, ⟨5, ⟨#[]⟩, 0, 1⟩, ⟨5, ⟨#[]⟩, 1, 0⟩]
def g5 : List ND := [⟨1, ⟨#[112]⟩, 0, 0⟩, ⟨1, ⟨#[113]⟩, 0, 0⟩, ⟨5, ⟨#[]⟩, 0, 1⟩, ⟨5, ⟨#[]⟩, 1, 0⟩, ⟨5, ⟨#[]⟩, 1, 1⟩]
def g7 : List ND := [⟨1, ⟨#[112]⟩, 0, 0⟩, ⟨1, ⟨#[113]⟩, 0, 0⟩, ⟨5, ⟨#[]⟩, 0, 1⟩, ⟨5, ⟨#[]⟩, 1, 0⟩, ⟨5, ⟨#[]⟩, 1, 1⟩, ⟨2, ⟨#[]⟩, 0, 0⟩, ⟨5, ⟨#[]⟩, 5, 5⟩]
def g8 : List ND := [⟨1, ⟨#[112]⟩, 0, 0⟩, ⟨1, ⟨#[113]⟩, 0, 0⟩, ⟨5, ⟨#[]⟩, 0, 1⟩, ⟨5, ⟨#[]⟩, 1, 0⟩, ⟨5, ⟨#[]⟩, 1, 1⟩, ⟨2, ⟨#[]⟩, 0, 0⟩, ⟨5, ⟨#[]⟩, 5, 5⟩, ⟨5, ⟨#[]⟩, 0, 0⟩]
def byPQ : List HY := [⟨⟨#[112]⟩, 1⟩, ⟨⟨#[113]⟩, 0⟩]
def byPP : List HY := [⟨⟨#[112]⟩, 0⟩, ⟨⟨#[112]⟩, 0⟩]

theorem gp3 : put hr2 ⟨5, ⟨#[]⟩, 0, 1⟩ = ⟨g3, 2, 0⟩ := by kernel_rfl
theorem gp5 : put g4 ⟨5, ⟨#[]⟩, 1, 0⟩ = ⟨g4, 3, 0⟩ := by kernel_rfl
theorem gp6 : put g4 ⟨5, ⟨#[]⟩, 1, 1⟩ = ⟨g5, 4, 0⟩ := by kernel_rfl
theorem gp9 : put g8 ⟨5, ⟨#[]⟩, 0, 0⟩ = ⟨g8, 7, 0⟩ := by kernel_rfl

theorem below_g {rows : List ND} {i : Nat} {l : List Nat} (hs : l = (List.range (i + 1)).filter (fun j => decide (j ∈ l))) (h : ∀ j, Reach rows i j ↔ j ∈ l) : below rows i = l := by
  have : below rows i = (List.range (i + 1)).filter (fun j => decide (j ∈ l)) := by
    unfold below
    congr 1
    funext j
    simp [h]
  rw [this, ← hs]
theorem reach_leaf {rows : List ND} {i j : Nat} {n : ND} (hn : rows[i]? = some n) (hk : n.kind < 3) (h : Reach rows i j) : j = i := by
  cases h with
  | refl => rfl
  | left hi hk2 _ => rw [hn] at hi; cases hi; omega
  | right hi hk2 _ => rw [hn] at hi; cases hi; omega
theorem reach_node {rows : List ND} {i : Nat} {n : ND} (hn : rows[i]? = some n) (hk : 3 ≤ n.kind) (j : Nat) : Reach rows i j ↔ j = i ∨ Reach rows n.l.toNat j ∨ Reach rows n.r.toNat j := by
  constructor
  · intro h
    cases h with
    | refl => exact .inl rfl
    | left hi _ h => rw [hn] at hi; cases hi; exact .inr (.inl h)
    | right hi _ h => rw [hn] at hi; cases hi; exact .inr (.inr h)
  · rintro (rfl | h | h)
    · exact .refl _
    · exact .left hn hk h
    · exact .right hn hk h
theorem reach_leaf_iff {rows : List ND} {i : Nat} {n : ND} (hn : rows[i]? = some n) (hk : n.kind < 3) (j : Nat) : Reach rows i j ↔ j = i := ⟨reach_leaf hn hk, fun e => e ▸ .refl _⟩
theorem bl3 : below g3 2 = [0, 1, 2] := by
  refine below_g (by decide) fun j => ?_
  rw [reach_node (n := ⟨5, ⟨#[]⟩, 0, 1⟩) rfl (by decide), reach_leaf_iff (i := Int.toNat 0) (n := ⟨1, ⟨#[112]⟩, 0, 0⟩) rfl (by decide), reach_leaf_iff (i := Int.toNat 1) (n := ⟨1, ⟨#[113]⟩, 0, 0⟩) rfl (by decide)]
  simp; omega
theorem bl7 : below g7 2 = [0, 1, 2] := by
  refine below_g (by decide) fun j => ?_
  rw [reach_node (n := ⟨5, ⟨#[]⟩, 0, 1⟩) rfl (by decide), reach_leaf_iff (i := Int.toNat 0) (n := ⟨1, ⟨#[112]⟩, 0, 0⟩) rfl (by decide), reach_leaf_iff (i := Int.toNat 1) (n := ⟨1, ⟨#[113]⟩, 0, 0⟩) rfl (by decide)]
  simp; omega
theorem bl5 : below g5 4 = [1, 4] := by
  refine below_g (by decide) fun j => ?_
  rw [reach_node (n := ⟨5, ⟨#[]⟩, 1, 1⟩) rfl (by decide), reach_leaf_iff (i := Int.toNat 1) (n := ⟨1, ⟨#[113]⟩, 0, 0⟩) rfl (by decide)]
  simp; omega

theorem gp4 : putP g3 2 byPQ = ⟨g4, 3, 0⟩ := by
  unfold putP
  rw [if_neg (by decide), if_neg (by decide), if_neg (by decide)]
  unfold anewP
  rw [show Int.toNat 2 = 2 from rfl, bl3]
  kernel_rfl
theorem gp7 : simpP g5 4 = ⟨g7, 6, 0⟩ := by
  unfold simpP
  rw [if_neg (by decide)]
  unfold anewP
  rw [show Int.toNat 4 = 4 from rfl, bl5]
  kernel_rfl
theorem gp8 : putP g7 2 byPP = ⟨g7, 0, 70⟩ := by
  unfold putP
  rw [if_neg (by decide), if_pos (by decide)]
theorem gpR : replP g7 2 1 0 = ⟨g8, 7, 0⟩ := by
  unfold replP
  rw [if_neg (by decide)]
  unfold anewP
  rw [show Int.toNat 2 = 2 from rfl, bl7]
  kernel_rfl

theorem gpM (ok : Ok g4) {l : List HY} {b : Bool} (h : MatchS g4 2 3 l b) : l = byPQ ∧ b = true := by
  refine matchS_unique ok h ⟨fun _ => ?_, fun h => (by cases h)⟩
  have t0 : tree g4 0 = .atom ⟨#[112]⟩ := tree_atom (n := ⟨1, ⟨#[112]⟩, 0, 0⟩) rfl rfl
  have t1 : tree g4 1 = .atom ⟨#[113]⟩ := tree_atom (n := ⟨1, ⟨#[113]⟩, 0, 0⟩) rfl rfl
  have t2 : tree g4 2 = .imp (.atom ⟨#[112]⟩) (.atom ⟨#[113]⟩) := by
    rw [tree_two ok (n := ⟨5, ⟨#[]⟩, 0, 1⟩) rfl (by decide)]
    show treeOf _ (tree g4 0) (tree g4 1) = _
    rw [t0, t1]; simp [treeOf]
  have t3 : tree g4 3 = .imp (.atom ⟨#[113]⟩) (.atom ⟨#[112]⟩) := by
    rw [tree_two ok (n := ⟨5, ⟨#[]⟩, 1, 0⟩) rfl (by decide)]
    show treeOf _ (tree g4 1) (tree g4 0) = _
    rw [t0, t1]; simp [treeOf]
  have n0 : namedF byPQ ⟨#[112]⟩ = some 1 := by decide
  have n1 : namedF byPQ ⟨#[113]⟩ = some 0 := by decide
  refine ⟨fun s => ?_, by unfold byPQ; decide, by unfold byPQ; decide, ?_⟩
  · rw [t2]
    simp [atoms, byPQ, eq_comm]
  · rw [t2, t3]
    simp only [sub, n0, n1, Option.map_some, Option.getD_some]
    show Fm.imp (tree g4 1) (tree g4 0) = _
    rw [t0, t1]

end Go.Dk


/- The heads of the statements on layer 7, walked. -/
namespace Go.Dk
open Go.RowKit Go.Maps Go.MapKept
open Go.Proofs hiding intOf

/-- New blocks of colour 2. -/
def re2 (ow : Own) (w : World) : Own := fun b => if b < w.heap.size then ow b else 2
theorem kept_re {ow : Own} {w W : World} (hb : Below w.heap.size w W) : Kept 1 ow w (re2 ow w) W := (hb.kept_ow).recolour (fun b hb => by simp [re2, hb])
theorem tab_re2 {ow : Own} {w W : World} {t : Value} {rows : List ND} (h : Tab 1 ow w t rows) (hb : Below w.heap.size w W) : Tab 1 (re2 ow w) W t rows := tab_re h hb

set_option maxRecDepth 100000 in
set_option maxHeartbeats 4000000 in
theorem heads07_any (w : World) : Calls Try.prog 9 #[] w fun e w' => e = .returned (.bool true) ∧ Below w.heap.size w w' := by
  have l1 : (⟨#[112]⟩ : ByteArray).size ≤ maxLen := by decide
  have l2 : (⟨#[113]⟩ : ByteArray).size ≤ maxLen := by decide
  go_enter Try.func9, Try.ntmps9
  go_wp2_with fail
  refine (new_any 1 (owC w) w).mono ?_
  rintro e w0 ⟨t, ow0, rfl, ht0, hk0, _⟩
  go_wp2_with fail
  have A1 := atom_any 1 _ _ _ _ ht0 ⟨#[112]⟩ l1
  rw [hp1] at A1
  refine A1.mono ?_
  clear A1 ht0 l1
  rintro e w1 ⟨rfl, ow1, hk1, ht1⟩
  have hk1 := hk0.trans hk1
  clear hk0
  go_wp2_with fail
  have A2 := atom_any 1 _ _ _ _ ht1 ⟨#[113]⟩ l2
  rw [hp2] at A2
  refine A2.mono ?_
  clear A2 ht1 l2
  rintro e w2 ⟨rfl, ow2, hk2, ht2⟩
  have hk2 := hk1.trans hk2
  clear hk1
  go_wp2_with fail
  have A3 := imp_any 1 _ _ _ _ ht2 0 1
  rw [gp3] at A3
  refine A3.mono ?_
  clear A3 ht2
  rintro e w3 ⟨rfl, ow3, hk3, ht3⟩
  have K3 := Lib.hid (hk2.trans hk3)
  have T3 := Lib.hid ht3
  clear hk2 hk3 ht3
  go_wp2_with fail
  have A4 := put07_any ow3 (w3.alloc (.cells (hyCells byPQ).toArray 38)) t _ g3 (T3.out.below (below_alloc _ _)) 2 byPQ (by decide) (rd_lit _ _ _ rfl rfl) (by decide)
  rw [gp4] at A4
  refine A4.mono ?_
  clear A4
  rintro e w4 ⟨rfl, ow4, hk4, ht4⟩
  have K4 := Lib.hid ((K3.out.trans (below_alloc _ _).kept_ow).trans hk4)
  clear hk4 K3 T3
  go_wp2_with fail
  have A5 := imp_any 1 _ _ _ _ ht4 1 0
  rw [gp5] at A5
  refine A5.mono ?_
  clear A5 ht4
  rintro e w5 ⟨rfl, ow5, hk5, ht5⟩
  have K5 := Lib.hid (K4.out.trans hk5)
  have T5 := Lib.hid ht5
  clear hk5 K4 ht5
  go_wp2_with fail
  refine (match07_any ow5 w5 t g4 T5.out 2 3).mono ?_
  rintro e w6 ⟨v, lm, bm, rfl, _, hms, hown6, hb6⟩
  have hl0 : lookE g4 [2, 3] = 0 := by decide
  rw [hl0]
  obtain ⟨rfl, rfl⟩ := gpM T5.out.ok (hms hl0)
  have K6 := Lib.hid (K5.out.trans (kept_re (ow := ow5) hb6))
  have T6 := Lib.hid (tab_re2 T5.out hb6)
  have O6 := Lib.hid hown6
  have C6 : Hid (∀ g, v.ownBlock = some g → re2 ow5 w5 g ≠ 1) := fun g hg => by have := (hown6.lt g hg).1; unfold re2; rw [if_neg (by omega)]; decide
  clear hms hl0 hown6 hb6 K5 T5
  generalize re2 ow5 w5 = ow6 at *
  go_wp2_with fail
  have A7 := imp_any 1 _ _ _ _ T6.out 1 1
  rw [gp6] at A7
  refine A7.mono ?_
  clear A7
  rintro e w7 ⟨rfl, ow7, hk7, ht7⟩
  have T7 := Lib.hid ht7
  have K7 := Lib.hid hk7
  clear hk7 ht7 T6
  go_wp2_with fail
  have A8 := simple_any ow7 w7 t g5 T7.out 4
  rw [gp7] at A8
  refine A8.mono ?_
  clear A8
  rintro e w8 ⟨rfl, ow8, hk8, ht8⟩
  have T8 := Lib.hid ht8
  have K8 := Lib.hid (K7.out.trans hk8)
  clear hk8 ht8 T7 K7
  go_wp2_with fail
  refine (node_yes 1 ow8 w8 t g7 T8.out 6 ⟨5, ⟨#[]⟩, 5, 5⟩ rfl).mono ?_
  rintro e w9 ⟨rfl, hb9⟩
  have BX : Hid (Boxed (w9.alloc (.cells #[.int .i64 5, .string ⟨#[]⟩, .int .i64 5, .int .i64 5] 36)) w9.heap.size ⟨5, ⟨#[]⟩, 5, 5⟩) := boxed_new w9 ⟨5, ⟨#[]⟩, 5, 5⟩ _
  have hb9' := below_trans hb9 (below_alloc w9 (.cells #[.int .i64 5, .string ⟨#[]⟩, .int .i64 5, .int .i64 5] 36))
  have K9 := Lib.hid (K8.out.trans (kept_re (ow := ow8) hb9'))
  have T9 := Lib.hid (tab_re2 T8.out hb9')
  have C9 : Hid (re2 ow8 w8 w9.heap.size ≠ 1) := by have := hb9.size; unfold Hid re2; rw [if_neg (by omega)]; decide
  clear hb9 hb9' K8 T8
  generalize re2 ow8 w8 = ow9 at *
  go_wp2_with fail
  have A10 := put07_any ow9 ((w9.alloc (.cells #[.int .i64 5, .string ⟨#[]⟩, .int .i64 5, .int .i64 5] 36)).alloc (.cells (hyCells byPP).toArray 38)) t (.slice (some ⟨w9.heap.size + 1, 0, none⟩) 2 2) g7 (T9.out.below (below_alloc _ _)) 2 byPP (by decide) (rd_lit' _ (by simp) _ _ rfl rfl) (by decide)
  rw [gp8] at A10
  refine A10.mono ?_
  clear A10
  rintro e w10 ⟨rfl, ow10, hk10, ht10⟩
  have T10 := Lib.hid ht10
  have K10 := Lib.hid (((below_alloc _ _).kept_ow).trans hk10)
  clear hk10 ht10 T9
  go_wp2_with fail
  have A11 := replace_any ow10 w10 t g7 T10.out 2 1 0
  rw [gpR] at A11
  refine A11.mono ?_
  clear A11
  rintro e w11 ⟨rfl, ow11, hk11, ht11⟩
  have T11 := Lib.hid ht11
  have K11 := Lib.hid (K10.out.trans hk11)
  clear hk11 ht11 T10 K10
  go_wp2_with fail
  have A12 := imp_any 1 _ _ _ _ T11.out 0 0
  rw [gp9] at A12
  refine A12.mono ?_
  clear A12
  rintro e w12 ⟨rfl, ow12, hk12, ht12⟩
  have K12 := Lib.hid (K11.out.trans hk12)
  have B12 := Lib.hid (BX.out.kept K12.out C9.out)
  have O12 := Lib.hid (own_keptC O6.out (K9.out.trans K12.out) C6.out)
  have H12 : Hid (Below w.heap.size w w12) := kept_below ((K6.out.trans K9.out).trans K12.out)
  clear hk12 ht12 K11 T11 BX O6 K6 K9 K12
  obtain ⟨va, vc, rfl⟩ := own_slice O12.out
  have R12 := Lib.hid (rd_own O12.out)
  clear O12
  go_wp2_with (go_at_call 17; refine (hyps_any _ _ _ byPQ byPQ (R12.out.below (below_alloc _ _)) (rd_lit _ _ _ rfl rfl) (by decide) (by decide)).mono ?_; rintro e w13 ⟨rfl, hb13⟩; have hq13 := below_trans (below_alloc _ _) hb13; obtain ⟨c0, c1, c2, c3⟩ := B12.out.below hq13; have HQ := Lib.hid hq13; clear hb13 hq13; simp only [decide_true])
  go_ret
  exact ⟨by simp, H12.out.trans (HQ.out.mono H12.out.size)⟩

end Go.Dk

