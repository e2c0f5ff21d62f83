/- The document's tables in memory, and what each method of dictumref03.T does to them. -/
import Derived.Test.YtmlohibhoibgkaaG
import Derived.Test.YtmlohibhoibgkaaH
import Derived.Test.YtmlohibhoibgkaaV
import Derived.Test.YtmlohibhoibgkaaR
import Derived.Test.YtmlohibhoibgkaaT
namespace Go.Dk
open Go.RowKit Go.Maps Go.MapKept
open Go.Proofs hiding intOf

structure RTabAt (k : Nat) (ow : Own) (w : World) (rb : Nat) (v : Value) (rows : List ND) : Prop where
  hp : w.heap[rb]? = some (.cells #[v] 69 (0, 0))
  hr : RowW w 36 4 v rows.length (nodeCells rows)
  ok : Ok rows
  cp : ow rb = k
  cr : ∀ g, v.ownBlock = some g → ow g = k

/-- A table of the document's at pointer t. -/
def RTab (k : Nat) (ow : Own) (w : World) (t : Value) (rows : List ND) : Prop :=
  ∃ rb v, t = .pointer (some ⟨rb, 0, none⟩) ∧ RTabAt k ow w rb v rows

theorem RTabAt.below {k : Nat} {ow : Own} {w w' : World} {rb : Nat} {v : Value} {rows : List ND} (h : RTabAt k ow w rb v rows) (hb : Below w.heap.size w w') : RTabAt k ow w' rb v rows :=
  ⟨(hb.block rb (lt_of_block h.hp)).trans h.hp, h.hr.below hb, h.ok, h.cp, h.cr⟩
theorem RTabAt.kept {k c : Nat} {ow ow' : Own} {w w' : World} {rb : Nat} {v : Value} {rows : List ND} (h : RTabAt k ow w rb v rows) (hb : Kept c ow w ow' w') (hc : k ≠ c) : RTabAt k ow' w' rb v rows := by
  have l1 := lt_of_block h.hp
  exact ⟨(hb.block rb l1 (by rw [h.cp]; exact hc)).trans h.hp, h.hr.same fun g hg => hb.block g (h.hr.lt hg) (by rw [h.cr g hg]; exact hc), h.ok, (hb.own _ l1).trans h.cp, fun g hg => (hb.own g (h.hr.lt hg)).trans (h.cr g hg)⟩
theorem RTab.below {k : Nat} {ow : Own} {w w' : World} {t : Value} {rows : List ND} (h : RTab k ow w t rows) (hb : Below w.heap.size w w') : RTab k ow w' t rows := by
  obtain ⟨rb, v, rfl, h⟩ := h; exact ⟨rb, v, rfl, h.below hb⟩
theorem RTab.kept {k c : Nat} {ow ow' : Own} {w w' : World} {t : Value} {rows : List ND} (h : RTab k ow w t rows) (hb : Kept c ow w ow' w') (hc : k ≠ c) : RTab k ow' w' t rows := by
  obtain ⟨rb, v, rfl, h⟩ := h; exact ⟨rb, v, rfl, h.kept hb hc⟩
theorem RTab.ok {k : Nat} {ow : Own} {w : World} {t : Value} {rows : List ND} (h : RTab k ow w t rows) : Ok rows := by
  obtain ⟨rb, v, _, h⟩ := h; exact h.ok
theorem RTab.recolour {k k2 : Nat} {ow ow2 : Own} {w : World} {t : Value} {rows : List ND} (h : RTab k ow w t rows) (hc : ∀ b, ow b = k → ow2 b = k2) : RTab k2 ow2 w t rows := by
  obtain ⟨rb, v, rfl, ⟨h1, h2, h3, h4, h5⟩⟩ := h
  exact ⟨rb, v, rfl, h1, h2, h3, hc _ h4, fun g hg => hc _ (h5 g hg)⟩

/-- The cells of row i of a table of the document's. -/
structure RRow (w : World) (rb g c len i : Nat) (n : ND) : Prop where
  cp : w.cell? ⟨rb, 0, none⟩ = some (.slice (some ⟨g, 0, none⟩) len c)
  d0 : w.cell? ⟨g, i * 4, none⟩ = some (.int .i64 n.kind)
  d1 : w.cell? ⟨g, i * 4 + 1, none⟩ = some (.string n.name)
  d2 : w.cell? ⟨g, i * 4 + 2, none⟩ = some (.int .i64 n.l)
  d3 : w.cell? ⟨g, i * 4 + 3, none⟩ = some (.int .i64 n.r)

theorem RTabAt.row {k : Nat} {ow : Own} {w : World} {rb : Nat} {v : Value} {rows : List ND} (h : RTabAt k ow w rb v rows) {i : Nat} {n : ND} (hi : rows[i]? = some n) : ∃ g c, v = .slice (some ⟨g, 0, none⟩) rows.length c ∧ RRow w rb g c rows.length i n := by
  have hl := (List.getElem?_eq_some_iff.1 hi).1
  obtain ⟨g, c, rfl, hg, hc⟩ := h.hr.get (by omega)
  exact ⟨g, c, rfl, cell_of h.hp rfl, hc _ _ (nodeCells_at rows i n hi 0 (by omega)), hc _ _ (nodeCells_at rows i n hi 1 (by omega)), hc _ _ (nodeCells_at rows i n hi 2 (by omega)), hc _ _ (nodeCells_at rows i n hi 3 (by omega))⟩
theorem RRow.below {w w' : World} {rb g c len i : Nat} {n : ND} (h : RRow w rb g c len i n) (hb : Below w.heap.size w w') : RRow w' rb g c len i n := by
  have hg : g < w.heap.size := World.block_lt_of_cell? w _ h.d0
  have hr : rb < w.heap.size := World.block_lt_of_cell? w _ h.cp
  exact ⟨(hb.cell (p := ⟨rb, 0, none⟩) hr).trans h.cp, (hb.cell (p := ⟨g, i * 4, none⟩) hg).trans h.d0, (hb.cell (p := ⟨g, i * 4 + 1, none⟩) hg).trans h.d1, (hb.cell (p := ⟨g, i * 4 + 2, none⟩) hg).trans h.d2, (hb.cell (p := ⟨g, i * 4 + 3, none⟩) hg).trans h.d3⟩

set_option maxRecDepth 100000 in
theorem refHas_any (k : Nat) (ow : Own) (w : World) (t : Value) (rows : List ND) (h : RTab k ow w t rows) (i : Int) :
    Calls Try.prog 8 #[t, .int .i64 i] w fun e w' => e = .returned (.bool (hasB rows.length i)) ∧ w = w' := by
  obtain ⟨pb, v, rfl, ⟨hb, hr, _⟩⟩ := h
  obtain ⟨a, c, rfl⟩ := hr.slice
  have c0 : w.cell? ⟨pb, 0, none⟩ = some (.slice a rows.length c) := cell_of hb rfl
  clear hb hr
  by_cases h0 : 0 ≤ i
  · by_cases h1 : i < (rows.length : Int)
    · go_enter Try.func8, Try.ntmps8
      go_wp2
      go_ret
      exact ⟨ret_bool (by simp [hasB, h0, h1]), rfl⟩
    · go_enter Try.func8, Try.ntmps8
      go_wp2
      go_ret
      exact ⟨ret_bool (by simp [hasB, h0, h1]), rfl⟩
  · go_enter Try.func8, Try.ntmps8
    go_wp2
    go_ret
    exact ⟨ret_bool (by simp [hasB]; omega), rfl⟩

theorem bytes_ext {a b : ByteArray} : a.toList = b.toList ↔ a = b := by
  rw [ByteArray.toList_eq, ByteArray.toList_eq]
  constructor
  · intro h
    obtain ⟨⟨x⟩⟩ := a
    obtain ⟨⟨y⟩⟩ := b
    simp only at h
    rw [h]
  · intro h; rw [h]

theorem eqNode (w : World) (x y : ND) : (binOp .eql 36 (.agg #[.int .i64 x.kind, .string x.name, .int .i64 x.l, .int .i64 x.r]) (.agg #[.int .i64 y.kind, .string y.name, .int .i64 y.l, .int .i64 y.r])).run Try.prog w = .ok (.bool (decide (x = y))) w := by
  go_simp
  obtain ⟨a, b, c, d⟩ := x
  obtain ⟨a', b', c', d'⟩ := y
  simp only [ND.mk.injEq]
  by_cases h1 : a = a' <;> by_cases h2 : b = b' <;> by_cases h3 : c = c' <;> by_cases h4 : d = d' <;> simp [h1, h2, h3, h4, bytes_ext]

theorem neNode (w : World) (x y : ND) : (binOp .neq 36 (.agg #[.int .i64 x.kind, .string x.name, .int .i64 x.l, .int .i64 x.r]) (.agg #[.int .i64 y.kind, .string y.name, .int .i64 y.l, .int .i64 y.r])).run Try.prog w = .ok (.bool (!decide (x = y))) w := by
  go_simp
  obtain ⟨a, b, c, d⟩ := x
  obtain ⟨a', b', c', d'⟩ := y
  simp only [ND.mk.injEq]
  by_cases h1 : a = a' <;> by_cases h2 : b = b' <;> by_cases h3 : c = c' <;> by_cases h4 : d = d' <;> simp [h1, h2, h3, h4, bytes_ext]

theorem idxOf?_found {rows : List ND} {i : Nat} {x : ND} (h : (rows.take i).idxOf? x = none) (hi : rows[i]? = some x) : rows.idxOf? x = some i := by
  have hl := (List.getElem?_eq_some_iff.1 hi).1
  unfold List.idxOf?
  rw [List.findIdx?_eq_some_iff_getElem]
  refine ⟨hl, by simp [(List.getElem?_eq_some_iff.1 hi).2], fun j hj e => ?_⟩
  refine (List.idxOf?_eq_none_iff.1 h) (List.mem_iff_getElem?.2 ⟨j, ?_⟩)
  rw [List.getElem?_take, if_pos hj, List.getElem?_eq_getElem (by omega)]
  simpa using e
theorem idxOf?_next {rows : List ND} {i : Nat} {x y : ND} (h : (rows.take i).idxOf? x = none) (hi : rows[i]? = some y) (hne : y ≠ x) : (rows.take (i + 1)).idxOf? x = none := by
  refine List.idxOf?_eq_none_iff.2 fun hm => ?_
  rw [List.take_add_one, hi] at hm
  simp only [Option.toList_some, List.mem_append, List.mem_singleton] at hm
  rcases hm with hm | hm
  · exact (List.idxOf?_eq_none_iff.1 h) hm
  · exact hne hm.symm

set_option maxRecDepth 100000 in
set_option maxHeartbeats 400000 in
theorem refFind_any (k : Nat) (ow : Own) (w : World) (t : Value) (rows : List ND) (h : RTab k ow w t rows) (kd l r : Int) (nm : ByteArray) :
    Calls Try.prog 11 #[t, .agg #[.int .i64 kd, .string nm, .int .i64 l, .int .i64 r]] w fun e w' => e = .returned (.tuple #[.int .i64 (((rows.idxOf? ⟨kd, nm, l, r⟩).getD 0 : Nat) : Int), .bool (rows.idxOf? ⟨kd, nm, l, r⟩).isSome]) ∧ Below w.heap.size w w' := by
  have hle := h.ok.le
  obtain ⟨rb, v, rfl, ht⟩ := h
  have hbx : Boxed (w.alloc (.cells #[.int .i64 kd, .string nm, .int .i64 l, .int .i64 r] 36)) w.heap.size ⟨kd, nm, l, r⟩ := boxed_new w ⟨kd, nm, l, r⟩ _
  have hv := ht.hr.slice
  obtain ⟨a, c, rfl⟩ := hv
  have HB := Lib.hid hbx
  have HT := Lib.hid (ht.below (below_alloc w (.cells #[.int .i64 kd, .string nm, .int .i64 l, .int .i64 r] 36)))
  clear hbx ht
  go_enter Try.func11, Try.ntmps11
  go_wp2
  go_loopw [6] (fun i W => ∃ j : Nat, j ≤ rows.length ∧ i = .int .i64 j ∧ (rows.take j).idxOf? ⟨kd, nm, l, r⟩ = none ∧ Below (w.heap.size + 1) (w.alloc (.cells #[.int .i64 kd, .string nm, .int .i64 l, .int .i64 r] 36)) W) (fun i _ => rows.length - (intOf i).toNat)
  case atStart => exact ⟨0, Nat.zero_le _, rfl, rfl, Below.refl _ _⟩
  case round =>
    obtain ⟨j, hj, rfl, hn, hb⟩ := hrel
    have hb' : Below (w.alloc (.cells #[.int .i64 kd, .string nm, .int .i64 l, .int .i64 r] 36)).heap.size (w.alloc (.cells #[.int .i64 kd, .string nm, .int .i64 l, .int .i64 r] 36)) wr := by simpa using hb
    have htr := HT.out.below hb'
    obtain ⟨c0, c1, c2, c3⟩ := HB.out.below hb'
    have hbel : Below w.heap.size w wr := below_trans (below_alloc w _) hb'
    have HN := Lib.hid hn; have HBL := Lib.hid hbel; have HB2 := Lib.hid hb
    clear hn hbel hb hb'
    by_cases hlt : j < rows.length
    · obtain ⟨x, hx⟩ : ∃ x, rows[j]? = some x := ⟨_, List.getElem?_eq_getElem hlt⟩
      obtain ⟨g, c', hv, ⟨cp, d0, d1, d2, d3⟩⟩ := htr.row hx
      cases hv
      have hq := fun W => eqNode W x ⟨kd, nm, l, r⟩
      simp only at hq
      have HX := Lib.hid hx
      have hji : (j : Int) < (rows.length : Int) := by omega
      clear htr hx
      by_cases hxn : x = ⟨kd, nm, l, r⟩
      · have hd : decide (x = ⟨kd, nm, l, r⟩) = true := by simp [hxn]
        have HF : Hid (rows.idxOf? ⟨kd, nm, l, r⟩ = some j) := idxOf?_found HN.out (by rw [HX.out, hxn])
        clear hxn
        go_wp2
        go_quiet (fail)
        go_wp2
        go_ret2
        rw [HF.out]
        exact ⟨rfl, below_trans HBL.out (below_drewN _ _)⟩
      · have hd : decide (x = ⟨kd, nm, l, r⟩) = false := by simp [hxn]
        have HF : Hid ((rows.take (j + 1)).idxOf? ⟨kd, nm, l, r⟩ = none) := idxOf?_next HN.out HX.out hxn
        clear hxn
        go_wp2
        go_quiet (fail)
        go_wp2
        exact ⟨⟨j + 1, by omega, by go_num, HF.out, HB2.out.trans ((below_drewN wr nq).mono (by have := HB2.out.size; simpa using this))⟩, by simp [intOf]; omega⟩
    · have HF : Hid (rows.idxOf? ⟨kd, nm, l, r⟩ = none) := by have := HN.out; rwa [List.take_of_length_le (by omega)] at this
      have cp : wr.cell? ⟨rb, 0, none⟩ = some (.slice a rows.length c) := cell_of htr.hp rfl
      clear htr
      go_wp2
      go_ret2
      rw [HF.out]
      exact ⟨rfl, HBL.out⟩


end Go.Dk

