/- What the document's loops over a formula's parts hold (layer 7): the table made so far, the list of images. -/
import Derived.Test.YtmlohibhoibgkaaZk
import Derived.Test.YtmlohibhoibgkaaSh
import Derived.Test.YtmlohibhoibgkaaRg
namespace Go.Dk
open Go.RowKit Go.Maps Go.MapKept
open Go.Proofs hiding intOf

theorem ints_setZ (zs : List Int) (k : Nat) (x : Int) : (ints zs).set k (.int .i64 x) = ints (zs.set k x) := by simp [ints, List.map_set]

theorem infoIntZ : ∃ i, Try.prog.info? 3 = some i ∧ i.zero = some (.int .i64 0) ∧ i.size = 1 ∧ i.bytes = 8 := by
  obtain ⟨i, hi, h⟩ := Option.map_eq_some_iff.1 infoInt
  simp only [Prod.mk.injEq] at h
  exact ⟨i, hi, h⟩

/-- A list of images, made. -/
theorem makeInts (w : World) (n : Nat) (h0 : 0 < n) (hn : n ≤ 1024) : ∃ w', (Instr.makeSlice 73 (.int .i64 (n : Int)) (.int .i64 (n : Int))).run Try.prog w = .ok (.slice (some ⟨w.heap.size, 0, none⟩) n n) w' ∧
    w'.ownsRow w.heap.size 3 1 (.slice (some ⟨w.heap.size, 0, none⟩) n n) n (ints (List.replicate n 0)) ∧ w.grownBy w' none := by
  obtain ⟨inf, hi1, hi2, hi3, hi4⟩ := infoIntZ
  obtain ⟨w1, hmk1, hown1, hgr1⟩ := run_makeSlice_full (P := Try.prog) w w.heap.size 73 3 inf (.int .i64 0) 1 Try.underlying73 hi1 hi2 hi3 .i64 .i64 n (by omega) (by rw [hi4]; omega) (by unfold maxLen; omega) (Nat.le_refl _)
  have hz : (madeCells (Value.int .i64 0).cells (n * 1)).toList = ints (List.replicate n 0) := by
    rw [show (Value.int .i64 0).cells = #[.int .i64 0] from rfl, toList_madeCells_one]
    simp [ints]
  rw [hz] at hown1
  exact ⟨w1, hmk1, hown1, hgr1⟩

/-- Images are numbers of rows. -/
def Rg (of : OfF) (rows0 : List ND) : Prop := ∀ (rows : List ND) (k l r : Nat), Ok rows → rows0 <+: rows → k < rows0.length → l < rows.length → r < rows.length →
  rows <+: (of rows k (rowAt rows k) (l : Int) (r : Int)).rows ∧ ((of rows k (rowAt rows k) (l : Int) (r : Int)).err = 0 → ∃ i : Nat, (of rows k (rowAt rows k) (l : Int) (r : Int)).id = (i : Int) ∧ i < (of rows k (rowAt rows k) (l : Int) (r : Int)).rows.length)

theorem put_rg {rows : List ND} {n : ND} (he : (put rows n).err = 0) : ∃ i : Nat, (put rows n).id = (i : Int) ∧ i < (put rows n).rows.length := by
  obtain ⟨i, h1, h2, _⟩ := put_ok he
  exact ⟨i, h1, (List.getElem?_eq_some_iff.1 h2).1⟩
theorem topP_rg {rows : List ND} (he : (topP rows).err = 0) : ∃ i : Nat, (topP rows).id = (i : Int) ∧ i < (topP rows).rows.length := by
  unfold topP at he ⊢
  by_cases hz : (put rows ⟨2, ByteArray.empty, 0, 0⟩).err = 0
  · rw [if_neg (by simpa using hz)] at he ⊢
    exact put_rg he
  · rw [if_pos hz] at he
    exact absurd he hz
def Put.rg (rows : List ND) (p : Put) : Prop := rows <+: p.rows ∧ (p.err = 0 → ∃ i : Nat, p.id = (i : Int) ∧ i < p.rows.length)
theorem rg_same {rows : List ND} {i : Nat} (hi : i < rows.length) : Put.rg rows ⟨rows, (i : Int), 0⟩ := ⟨List.prefix_refl _, fun _ => ⟨i, rfl, hi⟩⟩
theorem rg_put (rows : List ND) (n : ND) : Put.rg rows (put rows n) := ⟨put_prefix _ _, put_rg⟩
theorem rg_top (rows : List ND) : Put.rg rows (topP rows) := ⟨topP_grows _, topP_rg⟩
theorem simpOf_rg (rows0 : List ND) : Rg simpOf rows0 := by
  intro rows k l r _ hp hk hl hr
  have hk2 : k < rows.length := Nat.lt_of_lt_of_le hk hp.length_le
  show Put.rg rows (simpOf rows k (rowAt rows k) (l : Int) (r : Int))
  unfold simpOf
  repeat' split
  all_goals first
    | exact rg_same hk2
    | exact rg_same hl
    | exact rg_same hr
    | exact rg_put _ _
    | exact rg_top _
theorem plainP_rg {rows : List ND} {k : Nat} (hk2 : k < rows.length) (n : ND) (l r : Int) : Put.rg rows (plainP rows k n l r) := by
  unfold plainP
  split
  · exact rg_same hk2
  · exact rg_put _ _
theorem replOf_rg {rows0 : List ND} (old : Int) {b : Nat} (hb : b < rows0.length) : Rg (replOf old (b : Int)) rows0 := by
  intro rows k l r _ hp hk hl hr
  have hk2 : k < rows.length := Nat.lt_of_lt_of_le hk hp.length_le
  show Put.rg rows (replOf old (b : Int) rows k (rowAt rows k) (l : Int) (r : Int))
  unfold replOf
  split
  · exact rg_same (Nat.lt_of_lt_of_le hb hp.length_le)
  · exact plainP_rg hk2 _ _ _
theorem putOf_rg {rows0 : List ND} {named : ByteArray → Option Int} (hn : ∀ s f, named s = some f → hasB rows0.length f = true) : Rg (putOf named) rows0 := by
  intro rows k l r _ hp hk hl hr
  have hk2 : k < rows.length := Nat.lt_of_lt_of_le hk hp.length_le
  show Put.rg rows (putOf named rows k (rowAt rows k) (l : Int) (r : Int))
  rw [putOf_plain]
  split
  · rename_i h
    obtain ⟨f, hf⟩ := Option.isSome_iff_exists.1 h.2
    obtain ⟨x, rfl, hx⟩ := nat_of_has (hn _ _ hf)
    rw [hf]
    exact rg_same (Nat.lt_of_lt_of_le hx hp.length_le)
  · exact plainP_rg hk2 _ _ _

/-- What the loop holds: table, images so far, the list of them. -/
structure AnR (k : Nat) (of : OfF) (ow : Own) (w : World) (t : Value) (rows : List ND) (id ib : Nat) (v2 : Value) (j : Nat) (ow' : Own) (W : World) (rowsj : List ND) (img : Nat → Int) (zs : List Int) : Prop where
  kp : Kept k ow w ow' W
  tab : RTab k ow' W t rowsj
  st : anewGo of ((below rows id).take j) rows (fun _ => 0) = (rowsj, img, 0)
  pre : rows <+: rowsj
  rg : ∀ x ∈ (below rows id).take j, ∃ i : Nat, img x = (i : Int) ∧ i < rowsj.length
  il : ImgL rows.length zs ((below rows id).take j) img
  own : W.ownsRow w.heap.size 3 1 v2 (below rows id).length (ints (natInts (below rows id)))
  im : W.ownsRow w.heap.size 3 1 (.slice (some ⟨ib, 0, none⟩) rows.length rows.length) rows.length (ints zs)
  co : ∀ g, v2.ownBlock = some g → ow' g = k + 1
  ci : ow' ib = k + 1
  cn : v2.ownBlock ≠ some ib

theorem Boxed.set {w : World} {b c i : Nat} {n : ND} (h : Boxed w b n) (hne : b ≠ c) (v : Value) : Boxed (w.setCell ⟨c, i, none⟩ v) b n := by
  have key : ∀ j v', w.cell? ⟨b, j, none⟩ = some v' → (w.setCell ⟨c, i, none⟩ v).cell? ⟨b, j, none⟩ = some v' := fun j v' hc =>
    (World.cell?_of_block (Below.heap_setCell _ _ _ _ hne)).trans hc
  exact ⟨key _ _ h.c0, key _ _ h.c1, key _ _ h.c2, key _ _ h.c3⟩
section
variable {k : Nat} {of : OfF} {ow ow' : Own} {w W W' : World} {t v2 : Value} {rows rowsj : List ND} {id ib j : Nat} {img : Nat → Int} {zs : List Int}
theorem AnR.later (h : AnR k of ow w t rows id ib v2 j ow' W rowsj img zs) (hb : Below W.heap.size W W') : AnR k of ow w t rows id ib v2 j ow' W' rowsj img zs :=
  ⟨h.kp.trans hb.kept_ow, h.tab.below hb, h.st, h.pre, h.rg, h.il, own_belowC h.own hb, own_belowC h.im hb, h.co, h.ci, h.cn⟩
theorem AnR.lt (h : AnR k of ow w t rows id ib v2 j ow' W rowsj img zs) : w.heap.size ≤ ib ∧ ib < W.heap.size := h.im.lt ib rfl
/-- A store into the list of images, at a place that is not made yet. -/
theorem AnR.store (h : AnR k of ow w t rows id ib v2 j ow' W rowsj img zs) {x : Nat} (hx : x ∉ (below rows id).take j) (v : Int) :
    AnR k of ow w t rows id ib v2 j ow' (W.setCell ⟨ib, x, none⟩ (.int .i64 v)) rowsj img (zs.set x v) := by
  have ks := kept_setCell (k := k + 1) W (a := ⟨ib, x, none⟩) (ow := ow') h.ci (.int .i64 v)
  have hst := h.im.stored x (.int .i64 v)
  rw [ints_setZ] at hst
  have hl := h.lt
  refine ⟨⟨h.kp.os, h.kp.tape, h.kp.output, Nat.le_trans h.kp.size ks.size, h.kp.own, fun b hb hc => ?_⟩, h.tab.kept ks (by omega), h.st, h.pre, h.rg, ⟨by simpa using h.il.1, fun y hy => ?_⟩, ?_, hst.1, h.co, h.ci, h.cn⟩
  · rw [← h.kp.block b hb hc]
    exact Below.heap_setCell _ _ _ _ (by simp; omega)
  · rw [List.getElem?_set_ne (by rintro rfl; exact hx hy)]
    exact h.il.2 y hy
  · refine ⟨h.own.1, ?_⟩
    rcases h.own.2 with hn | ⟨g, cap, cur, rfl, hb, hg, rest⟩
    · exact .inl hn
    · refine .inr ⟨g, cap, cur, rfl, hb, ?_, rest⟩
      rw [← hg]
      exact Below.heap_setCell _ _ _ _ (fun e => h.cn (by rw [e]; rfl))
/-- The table is written, the image made. -/
theorem AnR.tabbed (h : AnR k of ow w t rows id ib v2 j ow' W rowsj img zs) {ow2 : Own} {W2 : World} (hk2 : Kept k ow' W ow2 W2) : Kept k ow w ow2 W2 ∧ W2.ownsRow w.heap.size 3 1 v2 (below rows id).length (ints (natInts (below rows id))) ∧
    W2.ownsRow w.heap.size 3 1 (.slice (some ⟨ib, 0, none⟩) rows.length rows.length) rows.length (ints zs) ∧ (∀ g, v2.ownBlock = some g → ow2 g = k + 1) ∧ ow2 ib = k + 1 := by
  refine ⟨h.kp.trans hk2, own_keptC h.own hk2 (fun g hg => by rw [h.co g hg]; omega), own_keptC h.im hk2 (fun g hg => ?_), fun g hg => ?_, ?_⟩
  · cases hg; rw [h.ci]; omega
  · rw [hk2.own g (h.own.lt g hg).2]; exact h.co g hg
  · rw [hk2.own ib h.lt.2]; exact h.ci
theorem AnR.next (h : AnR k of ow w t rows id ib v2 j ow' W rowsj img zs) {x : Nat} (hx : (below rows id)[j]? = some x) {p : Put} (hp : pAt of rowsj x img = p) (hz : p.err = 0) (hpre : rowsj <+: p.rows)
    {ow2 : Own} {W2 : World} (hk2 : Kept k ow' W ow2 W2) (ht : RTab k ow2 W2 t p.rows) {i : Nat} (hi : p.id = (i : Int)) (hil : i < p.rows.length) (hxl : x < rows.length) (hzs : zs[x]? = some p.id ∨ True) {zs' : List Int} (hzs' : zs.set x p.id = zs') :
    AnR k of ow w t rows id ib v2 (j + 1) ow2 (W2.setCell ⟨ib, x, none⟩ (.int .i64 p.id)) p.rows (fun y => if y = x then p.id else img y) zs' := by
  subst hzs'
  clear hzs
  have hnot : x ∉ (below rows id).take j := by
    intro hm
    have hpw := below_pairwise rows id
    obtain ⟨a, ha⟩ := List.getElem?_of_mem hm
    have haj : a < j := by
      have := (List.getElem?_eq_some_iff.1 ha).1
      rw [List.length_take] at this; omega
    rw [List.getElem?_take_of_lt haj] at ha
    have hja := (List.getElem?_eq_some_iff.1 hx).1
    have h1 := List.pairwise_iff_getElem.1 hpw a j (by omega) hja haj
    rw [(List.getElem?_eq_some_iff.1 ha).2, (List.getElem?_eq_some_iff.1 hx).2] at h1
    omega
  obtain ⟨a1, a2, a3, a4, a5⟩ := h.tabbed hk2
  have h2 : AnR k of ow w t rows id ib v2 j ow2 W2 rowsj img zs ∨ True := .inr trivial
  clear h2
  have ks := kept_setCell (k := k + 1) W2 (a := ⟨ib, x, none⟩) (ow := ow2) a5 (.int .i64 p.id)
  have hst := a3.stored x (.int .i64 p.id)
  rw [ints_setZ] at hst
  have hl := h.lt
  have e1 : anewGo of ((below rows id).take (j + 1)) rows (fun _ => 0) = (p.rows, fun y => if y = x then p.id else img y, 0) := by
    rw [takeN_snoc hx, anewGo_snoc h.st (by rw [hp]; exact hz), hp]
  have e2 := h.il.set (x := x) hxl hnot p.id
  rw [← takeN_snoc hx] at e2
  refine ⟨⟨a1.os, a1.tape, a1.output, Nat.le_trans a1.size ks.size, a1.own, fun b hb hc => ?_⟩, ht.kept ks (by omega), e1, h.pre.trans hpre, fun y hy => ?_, e2, ?_, hst.1, a4, a5, h.cn⟩
  · rw [← a1.block b hb hc]
    exact Below.heap_setCell _ _ _ _ (by simp; omega)
  · rw [takeN_snoc hx] at hy
    by_cases e : y = x
    · subst e; simp only [if_true]; exact ⟨i, hi, hil⟩
    · simp only [e, if_false]
      rcases List.mem_append.1 hy with hy | hy
      · obtain ⟨i', b1, b2⟩ := h.rg y hy
        exact ⟨i', b1, Nat.lt_of_lt_of_le b2 hpre.length_le⟩
      · exact absurd (by simpa using hy) e
  · refine ⟨a2.1, ?_⟩
    rcases a2.2 with hn | ⟨g, cap, cur, rfl, hb, hg, rest⟩
    · exact .inl hn
    · refine .inr ⟨g, cap, cur, rfl, hb, ?_, rest⟩
      rw [← hg]
      exact Below.heap_setCell _ _ _ _ (fun e => h.cn (by rw [e]; rfl))
theorem AnR.notin (_h : AnR k of ow w t rows id ib v2 j ow' W rowsj img zs) {x : Nat} (hx : (below rows id)[j]? = some x) : x ∉ (below rows id).take j := by
  intro hm
  have hpw := below_pairwise rows id
  obtain ⟨a, ha⟩ := List.getElem?_of_mem hm
  have haj : a < j := by
    have := (List.getElem?_eq_some_iff.1 ha).1
    rw [List.length_take] at this; omega
  rw [List.getElem?_take_of_lt haj] at ha
  have hja := (List.getElem?_eq_some_iff.1 hx).1
  have h1 := List.pairwise_iff_getElem.1 hpw a j (by omega) hja haj
  rw [(List.getElem?_eq_some_iff.1 ha).2, (List.getElem?_eq_some_iff.1 hx).2] at h1
  omega
/-- A part stands in what is made. -/
theorem AnR.parts (h : AnR k of ow w t rows id ib v2 j ow' W rowsj img zs) (ok : Ok rows) (hid : id < rows.length) {x : Nat} (hx : (below rows id)[j]? = some x) (h3 : 3 ≤ (rowAt rows x).kind) :
    (rowAt rows x).l.toNat ∈ (below rows id).take j ∧ (rowAt rows x).r.toNat ∈ (below rows id).take j := by
  have hxm := List.mem_of_getElem? hx
  have hxl : x < rows.length := by have := ((mem_below ok).1 hxm).le ok; omega
  obtain ⟨p1, p2⟩ := below_parts ok hid hxm h3
  obtain ⟨q1, q2⟩ := ok.parts (rowAt_get hxl) h3
  have key : ∀ y, y ∈ below rows id → y < x → y ∈ (below rows id).take j := by
    intro y hy hlt
    obtain ⟨a, ha⟩ := List.getElem?_of_mem hy
    have hla := (List.getElem?_eq_some_iff.1 ha).1
    have hlj := (List.getElem?_eq_some_iff.1 hx).1
    have haj : a < j := by
      apply Classical.byContradiction
      intro hn
      rcases Nat.lt_or_ge j a with hja | hja
      · have := List.pairwise_iff_getElem.1 (below_pairwise rows id) j a hlj hla hja
        rw [(List.getElem?_eq_some_iff.1 ha).2, (List.getElem?_eq_some_iff.1 hx).2] at this
        omega
      · have e : a = j := by omega
        subst e
        rw [hx] at ha; cases ha; omega
    exact List.mem_of_getElem? (by rw [List.getElem?_take_of_lt haj]; exact ha)
  exact ⟨key _ p1 (by omega), key _ p2 (by omega)⟩
theorem AnR.cell (h : AnR k of ow w t rows id ib v2 j ow' W rowsj img zs) {x : Nat} {z : Int} (hz : zs[x]? = some z) : W.cell? ⟨ib, x, none⟩ = some (.int .i64 z) := by
  have hl := (List.getElem?_eq_some_iff.1 hz).1
  have := h.il.1
  rw [h.im.cellAt x (by omega)]
  simp [ints, hz]
theorem AnR.fr (h : AnR k of ow w t rows id ib v2 j ow' W rowsj img zs) (x : Nat) : W.frozen? ⟨ib, x, none⟩ = false := h.im.frozenAt x
theorem AnR.start (h : RTab k ow w t rows) {w2 w3 : World} (hb : Below w.heap.size w w2) (hown : w2.ownsRow w.heap.size 3 1 v2 (below rows id).length (ints (natInts (below rows id)))) (hlt : ∀ g, v2.ownBlock = some g → g < w2.heap.size)
    (hgr : w2.grownBy w3 none) (him : w3.ownsRow w2.heap.size 3 1 (.slice (some ⟨w2.heap.size, 0, none⟩) rows.length rows.length) rows.length (ints (List.replicate rows.length 0))) :
    AnR k of ow w t rows id w2.heap.size v2 0 (fun b => if b < w.heap.size then ow b else k + 1) w3 rows (fun _ => 0) (List.replicate rows.length 0) := by
  have hb3 : Below w2.heap.size w2 w3 := (Below.refl _ _).grown hgr (Nat.le_refl _) (by intro k hk; cases hk)
  have hb2 := below_trans hb hb3
  have hr : ∀ c, Kept c ow w (fun b => if b < w.heap.size then ow b else k + 1) w3 := fun c => hb2.kept_ow.recolour (fun b hb => by simp [hb])
  have hs := hb.size
  have him2 : w3.ownsRow w.heap.size 3 1 (.slice (some ⟨w2.heap.size, 0, none⟩) rows.length rows.length) rows.length (ints (List.replicate rows.length 0)) := by
    refine ⟨him.1, ?_⟩
    rcases him.2 with hn | ⟨g, cap, cur, e, hb', rest⟩
    · exact .inl hn
    · exact .inr ⟨g, cap, cur, e, Nat.le_trans hs hb', rest⟩
  refine ⟨hr k, h.kept (hr (k + 1)) (by omega), by simp [anewGo], List.prefix_refl _, fun _ hx => by simp at hx, ⟨by simp, fun _ hx => by simp at hx⟩, own_belowC hown hb3, him2, fun g hg => ?_, ?_, fun e => ?_⟩
  · have := hown.lt g hg
    simp only [if_neg (show ¬ g < w.heap.size by omega)]
  · simp only [if_neg (show ¬ w2.heap.size < w.heap.size by omega)]
  · have := hlt _ e
    omega

end


end Go.Dk

