/- FormulaFrom: the walk. -/
import Derived.Test.YthbjmmnfoeanbaaM
import Derived.Test.YthbjmmnfoeanbaaEe
import Derived.Test.YthbjmmnfoeanbaaS
import Derived.Deep.MidRow
namespace Go.Dk
open Go.RowKit Go.Maps Go.MapKept
open Go.Proofs hiding intOf

theorem setCell_only (w : World) (b o : Nat) (v : Value) : Only b w (w.setCell ⟨b, o, none⟩ v) := by
  have := kept_setCell w (a := ⟨b, o, none⟩) (ow := fun x => if x = b then 1 else 0) (k := 1) (by simp) v
  exact ⟨this.os, this.tape, this.output, by simp, fun c hc => by
    by_cases hl : c < w.heap.size
    · exact this.block c hl (by simp [hc])
    · rw [Array.getElem?_eq_none (by simp; omega), Array.getElem?_eq_none (by omega)]⟩
theorem Only.trans {b : Nat} {w w1 w2 : World} (h : Only b w w1) (g : Only b w1 w2) : Only b w w2 :=
  ⟨g.os.trans h.os, g.tape.trans h.tape, g.output.trans h.output, g.size.trans h.size, fun c hc => (g.block c hc).trans (h.block c hc)⟩
theorem setCells_only (b : Nat) : ∀ (vs : List Value) (o : Nat) (w : World), Only b w (w.setCells b o vs)
  | [], _, w => ⟨rfl, rfl, rfl, rfl, fun _ _ => rfl⟩
  | v :: r, o, w => (setCell_only w b o v).trans (setCells_only b r (o + 1) _)

theorem own_there {w : World} {base : Nat} {e : TypeId} {size : Nat} {v : Value} {n : Nat} {xs : List Value} (h : w.ownsRow base e size v n xs) (hn : 0 < n) : ∃ g c, v = .slice (some ⟨g, 0, none⟩) n c ∧ w.there g 0 (n * size) ∧ base ≤ g ∧ g < w.heap.size := by
  rcases h.2 with ⟨_, rfl⟩ | ⟨g, cap, cur, rfl, hb, hg, r⟩
  · omega
  · refine ⟨g, cap, rfl, fun j hj => ?_, hb, lt_of_block hg⟩
    have hl := h.1
    have hj' : j < xs.length := by omega
    have := h.cells (g := g) rfl j _ (List.getElem?_eq_getElem hj')
    rw [show (⟨g, 0, none⟩ : Addr).add j = ⟨g, j, none⟩ by unfold Addr.add; split <;> simp_all] at this
    exact ⟨by rw [Nat.zero_add, this]; rfl, frozen_of hg⟩

theorem there4 {w : World} {g n j : Nat} (h : w.there g 0 (n * 4)) (hj : j < n) :
    ((∃ u, w.cell? ⟨g, j * 4, none⟩ = some u) ∧ w.frozen? ⟨g, j * 4, none⟩ = false) ∧ ((∃ u, w.cell? ⟨g, j * 4 + 1, none⟩ = some u) ∧ w.frozen? ⟨g, j * 4 + 1, none⟩ = false) ∧ ((∃ u, w.cell? ⟨g, j * 4 + 2, none⟩ = some u) ∧ w.frozen? ⟨g, j * 4 + 2, none⟩ = false) ∧ ((∃ u, w.cell? ⟨g, j * 4 + 3, none⟩ = some u) ∧ w.frozen? ⟨g, j * 4 + 3, none⟩ = false) := by
  have k : ∀ i, i < 4 → (∃ u, w.cell? ⟨g, j * 4 + i, none⟩ = some u) ∧ w.frozen? ⟨g, j * 4 + i, none⟩ = false := fun i hi => by
    have := h (j * 4 + i) (by omega)
    rw [Nat.zero_add] at this
    exact ⟨Option.isSome_iff_exists.1 this.1, this.2⟩
  exact ⟨k 0 (by omega), k 1 (by omega), k 2 (by omega), k 3 (by omega)⟩

theorem own_lo {w : World} {base : Nat} {e : TypeId} {size : Nat} {v : Value} {n : Nat} {xs : List Value} (h : w.ownsRow base e size v n xs) : ∀ b, b < base → v.ownBlock ≠ some b := by
  intro b hb e
  rcases h.2 with ⟨rfl, rfl⟩ | ⟨g, cap, cur, rfl, hb', hg, r⟩
  · simp [Value.ownBlock] at e
  · simp [Value.ownBlock] at e; omega
theorem there_below {w w' : World} {g o n : Nat} (h : w.there g o n) (hg : g < w.heap.size) (hb : Below w.heap.size w w') : w'.there g o n := fun j hj => by
  have hc : w'.heap[g]? = w.heap[g]? := hb.block g hg
  have h1 := h j hj
  unfold World.cell? World.frozen? at *
  simp only [hc]
  exact h1
theorem there_kept {w w' : World} {k : Nat} {ow ow' : Own} {g o n : Nat} (h : w.there g o n) (hg : g < w.heap.size) (hb : Kept k ow w ow' w') (hk : ow g ≠ k) : w'.there g o n := fun j hj => by
  have hc : w'.heap[g]? = w.heap[g]? := hb.block g hg hk
  have h1 := h j hj
  unfold World.cell? World.frozen? at *
  simp only [hc]
  exact h1

theorem Tab.ptr {k : Nat} {ow : Own} {w : World} {t : Value} {rows : List ND} (h : Tab k ow w t rows) : ∃ pb, t = .pointer (some ⟨pb, 0, none⟩) := by
  obtain ⟨pb, mb, v, e, _⟩ := h; exact ⟨pb, e⟩
theorem RTab.ptr {k : Nat} {ow : Own} {w : World} {t : Value} {rows : List ND} (h : RTab k ow w t rows) : ∃ pb, t = .pointer (some ⟨pb, 0, none⟩) := by
  obtain ⟨pb, v, e, _⟩ := h; exact ⟨pb, e⟩

structure OwnI (w W : World) (ow : Own) (v : Value) (n : Nat) : Prop where
  k : Kept 3 ow w ow W
  t : 0 < n → ∃ g c, v = .slice (some ⟨g, 0, none⟩) n c ∧ W.there g 0 (n * 4) ∧ ow g = 3

theorem OwnI.step {w W : World} {ow : Own} {g c n j : Nat} (h : OwnI w W ow (.slice (some ⟨g, 0, none⟩) n c) n) (hj : j < n) (cs : List Value) : OwnI w (W.setCells g (j * 4) cs) ow (.slice (some ⟨g, 0, none⟩) n c) n := by
  obtain ⟨g', c', e, h1, h2⟩ := h.t (by omega)
  cases e
  exact ⟨h.k.trans ((setCells_only _ _ _ _).kept h2), fun _ => ⟨_, _, rfl, World.there_setCells h1 _ _ _, h2⟩⟩

set_option maxRecDepth 100000 in
set_option maxHeartbeats 1000000 in
theorem formulaFrom_err (w : World) (v : Value) (rows : List ND) (hn : ∀ n ∈ rows, n.name.size ≤ maxLen) (hr : Rd w v rows.length 4 (nodeCells rows)) (hm : rows.length ≤ maxLen) (hl : rows.length * 40 ≤ 140737488355328) (h0 : fromE [] rows ≠ 0) :
    Calls Try.prog 4 #[v] w fun e w' => e = .returned (.bool true) ∧ Below w.heap.size w w' := by
  have HR := Lib.hid hr
  have HN := Lib.hid hn
  have H0 := Lib.hid h0
  obtain ⟨a, c, rfl⟩ := hr.slice
  clear hr hn h0
  unfold maxLen at hm
  go_enter Try.func4, Try.ntmps4
  go_wp2_with (first
    | (at_builtin; refine wp_append rfl (.tmp 9) (.tmp 10) 29 rfl w.heap.size 37 _ 4 40 Try.underlying29 infoNode rfl (by decide) (by decide) _ 0 [] rfl (World.ownsRow_made w _ 0 (Nat.le_refl _) (by decide) (by simp)) _ rows.length (nodeCells rows) rfl (HR.out.below (below_alloc _ _)) (nodeCells_one rows) (by omega) (by simp) ?_; intro v1 w1 hown hgrow hat hnil; simp only [Nat.zero_add, List.nil_append] at hown; have HB1 : Hid (Below w.heap.size w w1) := ((Below.refl _ _).alloc (Nat.le_refl _) _).grown hgrow (by simp) (by intro k hk; cases hk; exact Nat.le_refl _); have HO1 := Lib.hid hown; have HLO : Hid (∀ b, b < w.heap.size → v1.ownBlock ≠ some b) := own_lo hown; clear hown hgrow hat hnil)
    | (go_at_call 23; refine (from_any 1 (fun x => if v1.ownBlock = some x then 3 else 0) w1 v1 rows HN.out (rd_own HO1.out) (by unfold maxLen; omega)).mono ?_; rintro e w2 ⟨t, rfl, hb2, _, ht2⟩; have HB12 := Lib.hid hb2; have ht2 := ht2 H0.out; subst ht2; have HB2 : Hid (Below w.heap.size w w2) := HB1.out.trans (hb2.mono HB1.out.size); clear hb2)
    | (go_at_call 24; refine (refFrom_any 1 (fun x => if v1.ownBlock = some x then 3 else 0) w2 _ rows HN.out (HR.out.below HB2.out) (by unfold maxLen; omega)).mono ?_; rintro e w3 ⟨r, rfl, hb3, _, ht3⟩; have HB13 : Hid (Below w1.heap.size w1 w3) := below_trans HB12.out hb3; have ht3 := ht3 H0.out; subst ht3; have HB3 : Hid (Below w.heap.size w w3) := HB2.out.trans (hb3.mono HB2.out.size); clear hb3)
    | fail)
  obtain ⟨a1, c1, hv1⟩ := own_slice HO1.out
  subst hv1
  have HI : Hid (OwnI w3 w3 (fun x => if (Value.slice a1 rows.length c1).ownBlock = some x then 3 else 0) (.slice a1 rows.length c1) rows.length) := ⟨Kept.refl _ _ _, fun h => by
    obtain ⟨g, c, e, h1, _, h2⟩ := own_there HO1.out h
    have h3 := there_below h1 h2 HB13.out
    cases e
    exact ⟨g, c1, rfl, h3, by simp [Value.ownBlock]⟩⟩
  go_loopw [8] (fun i W => ∃ j : Nat, j ≤ rows.length ∧ i = .int .i64 j ∧ OwnI w3 W (fun x => if (Value.slice a1 rows.length c1).ownBlock = some x then 3 else 0) (.slice a1 rows.length c1) rows.length) (fun i _ => rows.length - (intOf i).toNat)
  case atStart => exact ⟨0, Nat.zero_le _, rfl, HI.out⟩
  case round =>
    obtain ⟨j, hj, rfl, hI⟩ := hrel
    by_cases hlt : j < rows.length
    · obtain ⟨g, c, e, h1, h2⟩ := hI.t (by omega)
      cases e
      have hI2 := Lib.hid (hI.step hlt [.int .i64 7, .string ⟨#[]⟩, .int .i64 0, .int .i64 0])
      have HT := Lib.hid h1
      clear hI h1
      obtain ⟨⟨⟨u0, d0⟩, f0⟩, ⟨⟨u1, d1⟩, f1⟩, ⟨⟨u2, d2⟩, f2⟩, ⟨⟨u3, d3⟩, f3⟩⟩ := there4 HT.out hlt
      go_wp2
      refine ⟨⟨j + 1, by omega, by go_num, hI2.out⟩, by simp [intOf]; omega⟩
    · have hI2 := Lib.hid hI
      clear hI
      go_wp2_with (go_at_call 22; refine (heads03_any _).mono ?_; rintro e w4 ⟨rfl, hb4⟩)
      go_ret
      exact ⟨rfl, below_trans (HB3.out.trans (hI2.out.k.below HB3.out.size fun b hb e => by
        have := HLO.out b hb
        rw [if_neg this] at e
        cases e)) hb4⟩

set_option maxRecDepth 100000 in
set_option maxHeartbeats 1000000 in
theorem formulaFrom_ok (w : World) (v : Value) (rows : List ND) (hn : ∀ n ∈ rows, n.name.size ≤ maxLen) (hr : Rd w v rows.length 4 (nodeCells rows)) (hm : rows.length ≤ maxLen) (hl : rows.length * 40 ≤ 140737488355328) (h0 : fromE [] rows = 0) :
    Calls Try.prog 4 #[v] w fun e w' => e = .returned (.bool true) ∧ Below w.heap.size w w' := by
  have HR := Lib.hid hr
  have HN := Lib.hid hn
  have H0 := Lib.hid h0
  obtain ⟨a, c, rfl⟩ := hr.slice
  clear hr hn h0
  unfold maxLen at hm
  go_enter Try.func4, Try.ntmps4
  go_wp2_with (first
    | (at_builtin; refine wp_append rfl (.tmp 9) (.tmp 10) 29 rfl w.heap.size 37 _ 4 40 Try.underlying29 infoNode rfl (by decide) (by decide) _ 0 [] rfl (World.ownsRow_made w _ 0 (Nat.le_refl _) (by decide) (by simp)) _ rows.length (nodeCells rows) rfl (HR.out.below (below_alloc _ _)) (nodeCells_one rows) (by omega) (by simp) ?_; intro v1 w1 hown hgrow hat hnil; simp only [Nat.zero_add, List.nil_append] at hown; have HB1 : Hid (Below w.heap.size w w1) := ((Below.refl _ _).alloc (Nat.le_refl _) _).grown hgrow (by simp) (by intro k hk; cases hk; exact Nat.le_refl _); have HO1 := Lib.hid hown; have HLO : Hid (∀ b, b < w.heap.size → v1.ownBlock ≠ some b) := own_lo hown; clear hown hgrow hat hnil)
    | (go_at_call 23; refine (from_any 1 (fun x => if v1.ownBlock = some x then 3 else 0) w1 v1 rows HN.out (rd_own HO1.out) (by unfold maxLen; omega)).mono ?_; rintro e w2 ⟨t, he, hb2, ht2, _⟩; rw [H0.out] at he; subst he; have HB12 := Lib.hid hb2; obtain ⟨ow2, hk2, ht2⟩ := ht2 H0.out; obtain ⟨pb, hpb⟩ := ht2.ptr; subst hpb; have HT2 := Lib.hid ht2; have HK2 := Lib.hid hk2; clear ht2 hk2; have HB2 : Hid (Below w.heap.size w w2) := HB1.out.trans (hb2.mono HB1.out.size); clear hb2)
    | (go_at_call 24; refine (refFrom_any 2 ow2 w2 _ rows HN.out (HR.out.below HB2.out) (by unfold maxLen; omega)).mono ?_; rintro e w3 ⟨r, he, hb3, ht3, _⟩; rw [H0.out] at he; subst he; have HB13 : Hid (Below w1.heap.size w1 w3) := below_trans HB12.out hb3; obtain ⟨ow3, hk3, ht3⟩ := ht3 H0.out; obtain ⟨qb, hqb⟩ := ht3.ptr; subst hqb; have HT3 := Lib.hid ht3; have HK3 := Lib.hid hk3; clear ht3 hk3; have HT4 : Hid (Tab 1 ow3 w3 (.pointer (some ⟨pb, 0, none⟩)) rows) := HT2.out.kept HK3.out (by decide); have HB3 : Hid (Below w.heap.size w w3) := HB2.out.trans (hb3.mono HB2.out.size); clear hb3)
    | fail)
  obtain ⟨a1, c1, hv1⟩ := own_slice HO1.out
  subst hv1
  have HS : Hid (w1.heap.size ≤ w2.heap.size) := HK2.out.size
  have HOW : Hid (∀ b, b < w1.heap.size → ow3 b = if (Value.slice a1 rows.length c1).ownBlock = some b then 3 else 0) := fun b hb => (HK3.out.own b (by have := HS.out; omega)).trans (HK2.out.own b hb)
  have HI : Hid (OwnI w3 w3 ow3 (.slice a1 rows.length c1) rows.length) := ⟨Kept.refl _ _ _, fun h => by
    obtain ⟨g, c, e, h1, _, h2⟩ := own_there HO1.out h
    have h3 := there_below h1 h2 HB13.out
    cases e
    exact ⟨g, c1, rfl, h3, by rw [HOW.out g h2]; exact if_pos rfl⟩⟩
  go_loopw [8] (fun i W => ∃ j : Nat, j ≤ rows.length ∧ i = .int .i64 j ∧ OwnI w3 W ow3 (.slice a1 rows.length c1) rows.length) (fun i _ => rows.length - (intOf i).toNat)
  case atStart => exact ⟨0, Nat.zero_le _, rfl, HI.out⟩
  case round =>
    obtain ⟨j, hj, rfl, hI⟩ := hrel
    by_cases hlt : j < rows.length
    · obtain ⟨g, c, e, h1, h2⟩ := hI.t (by omega)
      cases e
      have hI2 := Lib.hid (hI.step hlt [.int .i64 7, .string ⟨#[]⟩, .int .i64 0, .int .i64 0])
      have HT := Lib.hid h1
      clear hI h1
      obtain ⟨⟨⟨u0, d0⟩, f0⟩, ⟨⟨u1, d1⟩, f1⟩, ⟨⟨u2, d2⟩, f2⟩, ⟨⟨u3, d3⟩, f3⟩⟩ := there4 HT.out hlt
      go_wp2
      refine ⟨⟨j + 1, by omega, by go_num, hI2.out⟩, by simp [intOf]; omega⟩
    · have hI2 := Lib.hid hI
      clear hI
      have HW : Hid (Below w.heap.size w wr) := HB3.out.trans (hI2.out.k.below HB3.out.size fun b hb e => by
        rw [HOW.out b (Nat.lt_of_lt_of_le hb HB1.out.size), if_neg (HLO.out b hb)] at e
        cases e)
      have HT5 : Hid (Tab 1 ow3 wr (.pointer (some ⟨pb, 0, none⟩)) rows) := HT4.out.kept hI2.out.k (by decide)
      have HT6 : Hid (RTab 2 ow3 wr (.pointer (some ⟨qb, 0, none⟩)) rows) := HT3.out.kept hI2.out.k (by decide)
      go_wp2_with (first
        | (go_at_call 25; refine (like_any 1 2 ow3 ow3 _ _ _ rows HT5.out HT6.out).mono ?_; rintro e w4 ⟨rfl, hb4⟩)
        | (go_at_call 22; refine (heads03_any _).mono ?_; rintro e w5 ⟨rfl, hb5⟩))
      go_ret
      exact ⟨rfl, below_trans (below_trans HW.out hb4) hb5⟩

theorem formulaFrom_any (w : World) (v : Value) (rows : List ND) (hn : ∀ n ∈ rows, n.name.size ≤ maxLen) (hr : Rd w v rows.length 4 (nodeCells rows)) (hm : rows.length ≤ maxLen) (hl : rows.length * 40 ≤ 140737488355328) :
    Calls Try.prog 4 #[v] w fun e w' => e = .returned (.bool true) ∧ Below w.heap.size w w' := by
  by_cases h0 : fromE [] rows = 0
  · exact formulaFrom_ok w v rows hn hr hm hl h0
  · exact formulaFrom_err w v rows hn hr hm hl h0

end Go.Dk
