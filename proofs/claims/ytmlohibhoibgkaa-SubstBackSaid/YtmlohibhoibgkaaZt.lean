/- The document's named, bind. -/
import Derived.Test.YtmlohibhoibgkaaZr
import Derived.Test.YtmlohibhoibgkaaZg
import Derived.Test.YtmlohibhoibgkaaSv
namespace Go.Dk
open Go.RowKit Go.Maps Go.MapKept
open Go.Proofs hiding intOf

theorem namedF_app (a b : List HY) (s : ByteArray) : namedF (a ++ b) s = (namedF a s).or (namedF b s) := by
  unfold namedF
  rw [List.find?_append]
  cases a.find? fun h => decide (h.name = s) <;> simp
theorem drop_at {l : List HY} {j : Nat} {x : HY} (hx : l[j]? = some x) : l.drop j = x :: l.drop (j + 1) := by
  obtain ⟨h, rfl⟩ := List.getElem?_eq_some_iff.1 hx
  exact List.drop_eq_getElem_cons h
theorem namedF_at {l : List HY} {j : Nat} {x : HY} {s : ByteArray} (hx : l[j]? = some x) (hn : namedF (l.take j) s = none) (e : x.name = s) : namedF l s = some x.form := by
  have : l = l.take j ++ x :: l.drop (j + 1) := by rw [← drop_at hx, List.take_append_drop]
  rw [this, namedF_app, hn]
  simp [namedF, e]
theorem namedF_step {l : List HY} {j : Nat} {x : HY} {s : ByteArray} (hx : l[j]? = some x) (hn : namedF (l.take j) s = none) (e : ¬ x.name = s) : namedF (l.take (j + 1)) s = none := by
  rw [List.take_add_one, hx, namedF_app, hn]
  simp [namedF, e]
theorem nameEq (a b : ByteArray) : (a.toList == b.toList) = decide (a = b) := by
  by_cases e : a = b
  · simp [e]
  · have : ¬ a.toList = b.toList := fun h => e (bytes_ext.1 h)
    simp [e, this]
theorem nameLt (a b : ByteArray) : Op.bytesLess a.toList b.toList = decide (a.data.toList < b.data.toList) := by
  rw [bytesLess_eq, ByteArray.toList_eq, ByteArray.toList_eq]

set_option maxRecDepth 100000 in
theorem named07_any (w : World) (v : Value) (l : List HY) (s : ByteArray) (hv : Rd w v l.length 2 (hyCells l)) (hl : l.length ≤ 9223372036854775807) :
    Calls Try.prog 51 #[v, .string s] w fun e w' => e = .returned (.tuple #[.int .i64 ((namedF l s).getD 0), .bool (namedF l s).isSome]) ∧ w' = w := by
  have HV := Lib.hid hv
  obtain ⟨va, vc, rfl⟩ := hv.slice
  clear hv
  go_enter Try.func51, Try.ntmps51
  go_wp2_with fail
  go_loop [6] (fun i => ∃ j : Nat, j ≤ l.length ∧ i = .int .i64 (j : Int) ∧ namedF (l.take j) s = none) (fun i => l.length - (intOf i).toNat)
  case atStart => exact ⟨0, Nat.zero_le _, rfl, rfl⟩
  case round =>
    obtain ⟨j, hj, rfl, hn⟩ := hrel
    by_cases hlt : j < l.length
    · obtain ⟨b, o, c, x, e1, x0, x1, hx⟩ := hy_at HV.out hlt
      cases e1
      have hjl : (j : Int) < (l.length : Int) := by omega
      obtain ⟨xn, xf⟩ := x
      simp only at x0 x1
      have heq := nameEq xn s
      by_cases e : xn = s
      · have HE := Lib.hid (namedF_at hx hn e)
        clear hx hn
        simp only [e, decide_true] at heq
        rw [e] at x0
        clear e
        go_wp2_with fail
        go_ret2
        rw [HE.out]
        exact ⟨rfl, rfl⟩
      · have HE := Lib.hid (namedF_step hx hn e)
        clear hx hn
        simp only [e, decide_false] at heq
        clear e
        go_wp2_with fail
        exact ⟨⟨j + 1, by omega, by go_num, HE.out⟩, by simp [intOf]; omega⟩
    · have HF : Hid (namedF l s = none) := by rw [List.take_of_length_le (by omega)] at hn; exact hn
      clear hn
      go_wp2_with fail
      go_ret2
      rw [HF.out]
      exact ⟨rfl, rfl⟩

theorem insHY_skip {n : ByteArray} {id : Int} {x : HY} (h : ¬ n.data.toList < x.name.data.toList) (l : List HY) : insHY n id (x :: l) = x :: insHY n id l := by
  show (if _ then _ else _) = _
  rw [if_neg h]
theorem insHY_here {n : ByteArray} {id : Int} {x : HY} (h : n.data.toList < x.name.data.toList) (l : List HY) : insHY n id (x :: l) = ⟨n, id⟩ :: x :: l := by
  show (if _ then _ else _) = _
  rw [if_pos h]
/-- The new row so far. -/
structure InsI (n : ByteArray) (id : Int) (l : List HY) (j : Nat) (b : Bool) (L : List HY) : Prop where
  no : b = false → L = l.take j ∧ insHY n id l = l.take j ++ insHY n id (l.drop j)
  yes : b = true → insHY n id l = L ++ l.drop j ∧ L.length = j + 1
theorem InsI.start (n : ByteArray) (id : Int) (l : List HY) : InsI n id l 0 false [] := ⟨fun _ => by simp, fun h => by cases h⟩
theorem InsI.skip {n : ByteArray} {id : Int} {l L : List HY} {j : Nat} {x : HY} (h : InsI n id l j false L) (hx : l[j]? = some x) (hn : ¬ n.data.toList < x.name.data.toList) : InsI n id l (j + 1) false (L ++ [x]) := by
  obtain ⟨h1, h2⟩ := h.no rfl
  have e : l.take (j + 1) = l.take j ++ [x] := by rw [List.take_add_one, hx]; rfl
  refine ⟨fun _ => ⟨by rw [h1, e], ?_⟩, fun h => by cases h⟩
  rw [h2, drop_at hx, insHY_skip hn, e, List.append_assoc]; rfl
theorem InsI.here {n : ByteArray} {id : Int} {l L : List HY} {j : Nat} {x : HY} (h : InsI n id l j false L) (hx : l[j]? = some x) (hn : n.data.toList < x.name.data.toList) : InsI n id l (j + 1) true ((L ++ [⟨n, id⟩]) ++ [x]) := by
  obtain ⟨h1, h2⟩ := h.no rfl
  have hj := (List.getElem?_eq_some_iff.1 hx).1
  refine ⟨(fun h => by cases h), fun _ => ⟨?_, by rw [h1]; simp; omega⟩⟩
  rw [h2, drop_at hx, insHY_here hn, h1]; simp
theorem InsI.on {n : ByteArray} {id : Int} {l L : List HY} {j : Nat} {x : HY} (h : InsI n id l j true L) (hx : l[j]? = some x) : InsI n id l (j + 1) true (L ++ [x]) := by
  obtain ⟨h1, h2⟩ := h.yes rfl
  refine ⟨(fun h => by cases h), fun _ => ⟨?_, by simp [h2]⟩⟩
  rw [h1, drop_at hx]; simp
theorem InsI.len {n : ByteArray} {id : Int} {l L : List HY} {j : Nat} {b : Bool} (h : InsI n id l j b L) (hj : j ≤ l.length) : L.length ≤ j + 1 := by
  cases b with
  | false => rw [(h.no rfl).1]; simp; omega
  | true => rw [(h.yes rfl).2]; omega
theorem InsI.end_yes {n : ByteArray} {id : Int} {l L : List HY} (h : InsI n id l l.length true L) : insHY n id l = L := by
  have := (h.yes rfl).1; simpa using this
theorem InsI.end_no {n : ByteArray} {id : Int} {l L : List HY} (h : InsI n id l l.length false L) : insHY n id l = L ++ [⟨n, id⟩] := by
  obtain ⟨h1, h2⟩ := h.no rfl
  rw [h2, h1]; simp [insHY]

def BindPost (w : World) (v : Value) (l : List HY) (s : ByteArray) (id : Int) (e : Ending) (w' : World) : Prop :=
  ∃ v', e = .returned (.tuple #[v', .bool (bindP l s id).2]) ∧ Below w.heap.size w w' ∧ ((bindP l s id).1 = l ∧ v' = v ∨ w'.ownsRow w.heap.size 38 2 v' (bindP l s id).1.length (hyCells (bindP l s id).1))

/-- A row of names and formulas of the call's own, one more. -/
theorem own_addHY {w W W' : World} {o : Obj} {v v' : Value} {l : List HY} {x : HY} (hb : Below w.heap.size w W) (h : W.ownsRow w.heap.size 38 2 v l.length (hyCells l))
    (hown : W'.ownsRow w.heap.size 38 2 v' (l.length + 1) (hyCells l ++ [.string x.name, .int .i64 x.form])) (hgr : (W.alloc o).grownBy W' v.ownBlock) :
    Below w.heap.size w W' ∧ W'.ownsRow w.heap.size 38 2 v' (l ++ [x]).length (hyCells (l ++ [x])) := by
  have g2 : W.grownBy W' v.ownBlock := World.grownBy.trans (World.grownBy_alloc W o _) hgr
  refine ⟨hb.grown g2 hb.size (fun k hk => (h.lt k hk).1), ?_⟩
  have e : hyCells (l ++ [x]) = hyCells l ++ [.string x.name, .int .i64 x.form] := by simp [hyCells, HY.cells]
  rw [e, List.length_append]
  exact hown

set_option maxRecDepth 100000 in
set_option maxHeartbeats 2000000 in
theorem bind07_any (w : World) (v : Value) (l : List HY) (s : ByteArray) (id : Int) (hv : Rd w v l.length 2 (hyCells l)) (hl : l.length ≤ 2048) :
    Calls Try.prog 44 #[v, .string s, .int .i64 id] w (BindPost w v l s id) := by
  have HV := Lib.hid hv
  obtain ⟨va, vc, rfl⟩ := hv.slice
  have HNM := Lib.hid (named07_any w _ l s hv (by omega))
  clear hv
  cases hn : namedF l s with
  | some f =>
    have HB : Hid (bindP l s id = (l, f == id)) := by unfold Hid bindP; rw [hn]
    rw [hn] at HNM
    clear hn
    go_enter Try.func44, Try.ntmps44
    go_wp2_with (go_at_call 51; refine HNM.out.mono ?_; rintro e w' ⟨rfl, hw⟩; rw [hw]; clear hw)
    go_ret2
    exact ⟨.slice va l.length vc, by rw [HB.out]; rfl, Below.refl _ _, .inl ⟨by rw [HB.out], rfl⟩⟩
  | none =>
    have HB : Hid (bindP l s id = (insHY s id l, true)) := by unfold Hid bindP; rw [hn]
    rw [hn] at HNM
    clear hn
    go_enter Try.func44, Try.ntmps44
    go_wp2_with (go_at_call 51; refine HNM.out.mono ?_; rintro e w' ⟨rfl, hw⟩; rw [hw]; clear hw)
    go_loopw [10, 11, 12] (fun u p i W => ∃ (j : Nat) (b : Bool) (L : List HY), j ≤ l.length ∧ i = .int .i64 (j : Int) ∧ p = .bool b ∧ InsI s id l j b L ∧ Below w.heap.size w W ∧ W.ownsRow w.heap.size 38 2 u L.length (hyCells L)) (fun _ _ i _ => l.length - (intOf i).toNat)
    case atStart => exact ⟨0, false, [], Nat.zero_le _, rfl, rfl, InsI.start _ _ _, Below.refl _ _, World.ownsRow_nil _ _ _ _⟩
    case round =>
      obtain ⟨j, b, L, hj, rfl, rfl, hI, hbl, hown⟩ := hrel
      have HI := Lib.hid hI; have HBL := Lib.hid hbl; have HO := Lib.hid hown
      obtain ⟨oa, oc, rfl⟩ := own_slice hown
      have HLL := Lib.hid (hI.len hj)
      clear hI hbl hown
      by_cases hlt : j < l.length
      · obtain ⟨b', o', c', x, e1, x0, x1, hx⟩ := hy_at (HV.out.below HBL.out) hlt
        cases e1
        have HX := Lib.hid hx
        have hjl : (j : Int) < (l.length : Int) := by omega
        obtain ⟨xn, xf⟩ := x
        simp only at x0 x1
        clear hx
        cases b with
        | true =>
          as_aux_lemma =>
          go_wp2_with (at_builtin; refine wp_append rfl (.tmp 47) (.tmp 52) 23 rfl w.heap.size 38 _ 2 24 Try.underlying23 infoHyp rfl (by decide) (by decide) _ L.length (hyCells L) rfl (own_belowC HO.out (below_alloc _ _)) _ 1 [.string xn, .int .i64 xf] rfl (rd_lit _ _ _ rfl rfl) (by simp [Value.oneCell']) (by have := HLL.out; omega) (by have := HBL.out.size; simp; omega) ?_; intro v6 w6 hown6 hgr6 hat6 hnil6; have HA := Lib.hid (own_addHY (x := ⟨xn, xf⟩) HBL.out HO.out hown6 hgr6); clear hown6 hgr6 hat6 hnil6)
          exact ⟨⟨j + 1, true, L ++ [⟨xn, xf⟩], by omega, by go_num, rfl, HI.out.on HX.out, HA.out⟩, by simp [intOf]; omega⟩
        | false =>
          have hless := nameLt s xn
          by_cases hlt2 : s.data.toList < xn.data.toList
          · as_aux_lemma =>
            have HLT := Lib.hid hlt2
            simp only [hlt2, decide_true] at hless
            clear hlt2
            go_wp2_with (first
              | (at_builtin; refine wp_append rfl (.tmp 47) (.tmp 52) 23 rfl w.heap.size 38 _ 2 24 Try.underlying23 infoHyp rfl (by decide) (by decide) _ (L ++ [HY.mk s id]).length (hyCells (L ++ [HY.mk s id])) rfl (own_belowC HA.out.2 (below_alloc _ _)) _ 1 [.string xn, .int .i64 xf] rfl (rd_lit _ _ _ rfl rfl) (by simp [Value.oneCell']) (by have := HLL.out; rw [List.length_append]; simp only [List.length_cons, List.length_nil]; omega) (by have := HA.out.1.size; simp; omega) ?_; intro v7 w7 hown7 hgr7 hat7 hnil7; have HAA := Lib.hid (own_addHY (x := ⟨xn, xf⟩) HA.out.1 HA.out.2 hown7 hgr7); clear hown7 hgr7 hat7 hnil7)
              | (at_builtin; refine wp_append rfl (.tmp 41) (.tmp 45) 23 rfl w.heap.size 38 _ 2 24 Try.underlying23 infoHyp rfl (by decide) (by decide) _ L.length (hyCells L) rfl (own_belowC HO.out (below_alloc _ _)) _ 1 [.string s, .int .i64 id] rfl (rd_lit _ _ _ rfl rfl) (by simp [Value.oneCell']) (by have := HLL.out; omega) (by have := HBL.out.size; simp; omega) ?_; intro v6 w6 hown6 hgr6 hat6 hnil6; obtain ⟨ua, uc, hv6⟩ := own_slice hown6; subst hv6; have HA := Lib.hid (own_addHY (x := ⟨s, id⟩) HBL.out HO.out hown6 hgr6); clear hown6 hgr6 hat6 hnil6 x0 x1; obtain ⟨b9, o9, c9, x9, e9, x0, x1, hx9⟩ := hy_at (HV.out.below HA.out.1) hlt; cases e9; obtain rfl : ⟨xn, xf⟩ = x9 := (by have := HX.out; rw [hx9] at this; exact (Option.some.inj this).symm); simp only at x0 x1; clear hx9; skip))
            exact ⟨⟨j + 1, true, L ++ [⟨s, id⟩] ++ [⟨xn, xf⟩], by omega, by go_num, rfl, HI.out.here HX.out HLT.out, HAA.out⟩, by simp [intOf]; omega⟩
          · as_aux_lemma =>
            have HLT := Lib.hid hlt2
            simp only [hlt2, decide_false] at hless
            clear hlt2
            go_wp2_with (at_builtin; refine wp_append rfl (.tmp 47) (.tmp 52) 23 rfl w.heap.size 38 _ 2 24 Try.underlying23 infoHyp rfl (by decide) (by decide) _ L.length (hyCells L) rfl (own_belowC HO.out (below_alloc _ _)) _ 1 [.string xn, .int .i64 xf] rfl (rd_lit _ _ _ rfl rfl) (by simp [Value.oneCell']) (by have := HLL.out; omega) (by have := HBL.out.size; simp; omega) ?_; intro v6 w6 hown6 hgr6 hat6 hnil6; have HA := Lib.hid (own_addHY (x := ⟨xn, xf⟩) HBL.out HO.out hown6 hgr6); clear hown6 hgr6 hat6 hnil6)
            exact ⟨⟨j + 1, false, L ++ [⟨xn, xf⟩], by omega, by go_num, rfl, HI.out.skip HX.out HLT.out, HA.out⟩, by simp [intOf]; omega⟩
      · obtain rfl : j = l.length := by omega
        cases b with
        | true =>
          as_aux_lemma =>
          have HE := Lib.hid HI.out.end_yes
          go_wp2_with fail
          go_ret2
          exact ⟨.slice oa L.length oc, by rw [HB.out]; rfl, HBL.out, .inr (by rw [HB.out]; simp only; rw [HE.out]; exact HO.out)⟩
        | false =>
          as_aux_lemma =>
          have HE := Lib.hid HI.out.end_no
          go_wp2_with (at_builtin; refine wp_append rfl (.tmp 56) (.tmp 60) 23 rfl w.heap.size 38 _ 2 24 Try.underlying23 infoHyp rfl (by decide) (by decide) _ L.length (hyCells L) rfl (own_belowC HO.out (below_alloc _ _)) _ 1 [.string s, .int .i64 id] rfl (rd_lit _ _ _ rfl rfl) (by simp [Value.oneCell']) (by have := HLL.out; omega) (by have := HBL.out.size; simp; omega) ?_; intro v6 w6 hown6 hgr6 hat6 hnil6; have HA := Lib.hid (own_addHY (x := ⟨s, id⟩) HBL.out HO.out hown6 hgr6); clear hown6 hgr6 hat6 hnil6)
          go_ret2
          exact ⟨v6, by rw [HB.out]; rfl, HA.out.1, .inr (by rw [HB.out]; simp only; rw [HE.out]; exact HA.out.2)⟩

end Go.Dk

