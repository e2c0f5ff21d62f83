/- Layer 7: tables that no call made; the comparison of names and formulas. -/
import Derived.Test.YtmlohibhoibgkaaSv
import Derived.Test.YtmlohibhoibgkaaN
namespace Go.Dk
open Go.RowKit Go.Maps Go.MapKept
open Go.Proofs hiding intOf

theorem Dead.ptr {w : World} {t : Value} (h : Dead w t) : ∃ p, t = .pointer p := by
  rcases h with rfl | ⟨b, rfl, _⟩
  · exact ⟨_, rfl⟩
  · exact ⟨_, rfl⟩
set_option maxRecDepth 100000 in
theorem looked_dead (w : World) (t v : Value) (h : Dead w t) : Calls Try.prog 33 #[t, v] w (One (.int .i64 1) w) := by
  have H := Lib.hid h
  clear h
  go_enter Try.func33, Try.ntmps33
  go_wp2_with (go_at_call 56; refine (not_dead _ _ H.out _).mono ?_; rintro e w' ⟨rfl, hq⟩; have HQ := Lib.hid hq; clear hq)
  go_ret
  exact ⟨rfl, HQ.out⟩
set_option maxRecDepth 100000 in
theorem simple_dead (w : World) (t : Value) (h : Dead w t) (id : Int) : Calls Try.prog 19 #[t, .int .i64 id] w (Two (.int .i64 0) (.int .i64 1) w) := by
  obtain ⟨pp, rfl⟩ := h.ptr
  have H := Lib.hid h
  clear h
  go_enter Try.func19, Try.ntmps19
  go_wp2_with fail
  refine (looked_dead _ _ _ (H.out.below (below_alloc _ _))).mono ?_
  rintro e w1 ⟨rfl, hb⟩
  have HB := Lib.hid (below_trans (below_alloc _ _) hb)
  clear hb
  go_wp2_with fail
  go_ret2
  exact ⟨rfl, HB.out⟩
set_option maxRecDepth 100000 in
theorem repl_dead (w : World) (t : Value) (h : Dead w t) (id old fill : Int) : Calls Try.prog 23 #[t, .int .i64 id, .int .i64 old, .int .i64 fill] w (Two (.int .i64 0) (.int .i64 1) w) := by
  obtain ⟨pp, rfl⟩ := h.ptr
  have H := Lib.hid h
  have HB : Hid (Below w.heap.size w w) := Below.refl _ _
  clear h
  go_enter Try.func23, Try.ntmps23
  go_wp2_with (go_at_call 33; refine (looked_dead _ _ _ (H.out.below (by repeat (with_reducible first | exact Below.refl _ _ | exact HB.out | refine below_trans ?_ (below_alloc _ _) | refine below_trans ?_ (below_drew1 _) | refine below_trans ?_ (below_drewN _ _) | refine below_sc ?_ (by first | exact Nat.le_refl _ | (simp; done) | (simp; omega)))))).mono ?_; rintro e w1 ⟨rfl, hb⟩; have HB := Lib.hid (below_trans (w := w) (by repeat (with_reducible first | exact Below.refl _ _ | exact HB.out | refine below_trans ?_ (below_alloc _ _) | refine below_trans ?_ (below_drew1 _) | refine below_trans ?_ (below_drewN _ _) | refine below_sc ?_ (by first | exact Nat.le_refl _ | (simp; done) | (simp; omega)))) hb); clear hb)
  go_ret2
  exact ⟨rfl, HB.out⟩
set_option maxRecDepth 100000 in
theorem match07_dead (w : World) (t : Value) (h : Dead w t) (p f : Int) : Calls Try.prog 14 #[t, .int .i64 p, .int .i64 f] w fun e w' => e = .returned (.tuple #[.slice none 0 0, .bool false, .int .i64 1]) ∧ Below w.heap.size w w' := by
  obtain ⟨pp, rfl⟩ := h.ptr
  have H := Lib.hid h
  have HB : Hid (Below w.heap.size w w) := Below.refl _ _
  clear h
  go_enter Try.func14, Try.ntmps14
  go_wp2_with (go_at_call 33; refine (looked_dead _ _ _ (H.out.below (by repeat (with_reducible first | exact Below.refl _ _ | exact HB.out | refine below_trans ?_ (below_alloc _ _) | refine below_trans ?_ (below_drew1 _) | refine below_trans ?_ (below_drewN _ _) | refine below_sc ?_ (by first | exact Nat.le_refl _ | (simp; done) | (simp; omega)))))).mono ?_; rintro e w1 ⟨rfl, hb⟩; have HB := Lib.hid (below_trans (w := w) (by repeat (with_reducible first | exact Below.refl _ _ | exact HB.out | refine below_trans ?_ (below_alloc _ _) | refine below_trans ?_ (below_drew1 _) | refine below_trans ?_ (below_drewN _ _) | refine below_sc ?_ (by first | exact Nat.le_refl _ | (simp; done) | (simp; omega)))) hb); clear hb)
  go_ret3
  exact ⟨rfl, HB.out⟩

set_option maxRecDepth 100000 in
set_option maxHeartbeats 4000000 in
theorem put07_dead (w : World) (t v : Value) (h : Dead w t) (id : Int) (l : List HY) (hn : ∀ x ∈ l, x.name.size ≤ maxLen) (hv : Rd w v l.length 2 (hyCells l)) (hl : l.length * 16 ≤ 140737488355328) :
    Calls Try.prog 13 #[t, .int .i64 id, v] w (Two (.int .i64 0) (.int .i64 1) w) := by
  obtain ⟨pp, rfl⟩ := h.ptr
  have HD := Lib.hid h
  have HV := Lib.hid hv
  have HN := Lib.hid hn
  obtain ⟨va, vc, rfl⟩ := hv.slice
  clear h hv hn
  go_enter Try.func13, Try.ntmps13
  go_wp2_with fail
  have HI0 : Hid (Below w.heap.size w ((w.alloc (.cells #[.pointer pp] 24)).alloc (.cells #[.int .i64 id] 3))) := below_trans (below_alloc _ _) (below_alloc _ _)
  have HC0 : Hid (((w.alloc (.cells #[.pointer pp] 24)).alloc (.cells #[.int .i64 id] 3)).cell? ⟨w.heap.size, 0, none⟩ = some (.pointer pp)) := (World.cell?_alloc_lt _ _ _ (by simp)).trans (World.cell?_alloc_at _ _ _ _ rfl)
  have HO0 : Hid (((w.alloc (.cells #[.pointer pp] 24)).alloc (.cells #[.int .i64 id] 3)).ownsRow (w.heap.size + 1) 3 1 (.slice (some ⟨w.heap.size + 1, 0, none⟩) 1 1) (0 + 1) (ints (id :: formsOf (l.take 0)))) := by
    refine ⟨by simp [ints, formsOf], .inr ⟨w.heap.size + 1, 1, _, rfl, Nat.le_refl _, heap_alloc_new' _ _ (by simp), Nat.le_refl _, by decide, by simp, by simp [ints, formsOf]⟩⟩
  generalize (w.alloc (.cells #[.pointer pp] 24)).alloc (.cells #[.int .i64 id] 3) = w1 at *
  go_loopw [8, 23] (fun u i W => ∃ j : Nat, j ≤ l.length ∧ i = .int .i64 (j : Int) ∧ W.ownsRow (w.heap.size + 1) 3 1 u (j + 1) (ints (id :: formsOf (l.take j))) ∧ Below w.heap.size w W ∧ W.cell? ⟨w.heap.size, 0, none⟩ = some (.pointer pp)) (fun _ i _ => l.length - (intOf i).toNat)
  case atStart => exact ⟨0, Nat.zero_le _, rfl, HO0.out, HI0.out, HC0.out⟩
  case round =>
    obtain ⟨j, hj, rfl, hown, hb, hc0⟩ := hrel
    have HO := Lib.hid hown; have HB := Lib.hid hb; have HC := Lib.hid hc0
    obtain ⟨oa, oc, hoo⟩ := own_slice hown
    subst hoo
    clear hown hb
    by_cases hlt : j < l.length
    · as_aux_lemma =>
      obtain ⟨b, o, c1, x, he, hc1, hc2, hxk⟩ := hy_at (HV.out.below HB.out) hlt
      cases he
      have HX := Lib.hid hxk
      have hji : (j : Int) < (l.length : Int) := by omega
      have HFS := Lib.hid (formsOf_snoc hxk)
      obtain ⟨xn, xf⟩ := x
      simp only at hc1 hc2
      clear hxk
      go_wp2_with (at_builtin; refine wp_append rfl (.tmp 27) (.tmp 30) 73 rfl (w.heap.size + 1) 3 _ 1 8 Try.underlying73 infoInt rfl (by decide) (by decide) _ (j + 1) (ints (id :: formsOf (l.take j))) rfl (own_belowC HO.out (below_trans (below_alloc _ _) (below_alloc _ _))) _ 1 [.int .i64 xf] rfl (rd_one' _ _ _ (by simp)) (by simp [Value.oneCell']) (by omega) (by have := World.block_lt_of_cell? _ _ HC.out; simp at this; simp; omega) ?_; intro v5 w5 hown5 hgr5 hat5 hnil5; have HF5 : Hid (w5.ownsRow (w.heap.size + 1) 3 1 v5 (j + 1 + 1) (ints (id :: formsOf (l.take j)) ++ [.int .i64 xf]) ∧ Below w.heap.size w w5 ∧ w5.cell? ⟨w.heap.size, 0, none⟩ = some (.pointer pp)) := ⟨hown5, (below_trans HB.out (below_trans (below_alloc _ _) (below_alloc _ _))).grown hgr5 (by have := HB.out.size; simp; omega) (fun q hq => by have := (HO.out.lt q hq).1; omega), hgr5.cell ((World.cell?_alloc_lt _ _ _ (by have := World.block_lt_of_cell? _ _ HC.out; simp at this; simp; omega)).trans ((World.cell?_alloc_lt _ _ _ (World.block_lt_of_cell? _ _ HC.out)).trans HC.out)) (fun e => by have h9 := (HO.out.lt _ e.symm).1; simp at h9; omega)⟩; clear hown5 hgr5 hat5 hnil5)
      refine ⟨⟨j + 1, by omega, by go_num, ?_, HF5.out.2.1, HF5.out.2.2⟩, by simp [intOf]; omega⟩
      have := HF5.out.1
      rw [show ints (id :: formsOf (l.take j)) ++ [Value.int .i64 xf] = ints (id :: formsOf (l.take (j + 1))) by rw [HFS.out]; simp [ints]] at this
      exact this
    · as_aux_lemma =>
      obtain rfl : j = l.length := by omega
      have hO := HO.out
      rw [List.take_length] at hO
      have HR := Lib.hid (rd_own hO)
      have HLN : Hid ((id :: formsOf l).length = l.length + 1) := by simp [Hid, formsOf]
      clear hO hj hlt
      go_wp2_with fail
      refine (looked_dead _ _ _ (HD.out.below HB.out)).mono ?_
      rintro e w2 ⟨rfl, hb2⟩
      have HB2 := Lib.hid (below_trans HB.out hb2)
      clear hb2 hc0
      go_wp2_with fail
      go_ret2
      exact ⟨rfl, HB2.out⟩
set_option maxRecDepth 100000 in
theorem frame07_dead (w : World) (t : Value) (h : Dead w t) (id fill : Int) (hole : ByteArray) (hn : hole.size ≤ maxLen) : Calls Try.prog 25 #[t, .int .i64 id, .string hole, .int .i64 fill] w (Two (.int .i64 0) (.int .i64 1) w) := by
  obtain ⟨pp, rfl⟩ := h.ptr
  have H := Lib.hid h
  clear h
  go_enter Try.func25, Try.ntmps25
  go_wp2_with fail
  refine (put07_dead _ _ _ (H.out.below (below_alloc _ _)) id [⟨hole, fill⟩] (by simpa using hn) (rd_lit _ _ _ rfl rfl) (by simp)).mono ?_
  rintro e w1 ⟨rfl, hb⟩
  have HB := Lib.hid (below_trans (below_alloc _ _) hb)
  clear hb
  go_wp2_with fail
  go_ret2
  exact ⟨rfl, HB.out⟩

/-- Are two rows of names and formulas the same? -/
theorem hy_eq {l m : List HY} (hl : l.length = m.length) (h : ∀ i : Nat, ∀ x y, l[i]? = some x → m[i]? = some y → x = y) : l = m := by
  apply List.ext_getElem hl
  intro i h1 h2
  exact h i _ _ (List.getElem?_eq_getElem h1) (List.getElem?_eq_getElem h2)

end Go.Dk

