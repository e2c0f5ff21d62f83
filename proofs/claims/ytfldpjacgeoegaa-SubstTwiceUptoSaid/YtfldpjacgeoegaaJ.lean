/- Copy of a living table. -/
import Derived.Test.YtfldpjacgeoegaaI
namespace Go.Dk
open Go.RowKit Go.Maps Go.MapKept
open Go.Proofs

theorem Tab.recolour {k k2 : Nat} {ow ow2 : Own} {w : World} {t : Value} {rows : List ND} (h : Tab k ow w t rows) (hc : ∀ b, ow b = k → ow2 b = k2) : Tab k2 ow2 w t rows := by
  obtain ⟨pb, mb, v, rfl, ⟨h1, h2, h3, h4, h5, h6, h7⟩⟩ := h
  exact ⟨pb, mb, v, rfl, h1, h2, h3, h4, hc _ h5, hc _ h6, fun g hg => hc _ (h7 g hg)⟩

def owC (w : World) : Own := fun b => if b < w.heap.size then 0 else 1

theorem kept_below' {w w' : World} {ow' : Own} (h : Kept 1 (owC w) w ow' w') : Below w.heap.size w w' := h.below (Nat.le_refl _) (by intro b hb; simp [owC, hb])

/-- In the loop of Copy. -/
structure CopyI (w W : World) (c : Value) (rows : List ND) (j : Nat) : Prop where
  ex : ∃ ow', Tab 1 ow' W c (rows.take j) ∧ Kept 1 (owC w) w ow' W

theorem CopyI.bel {w W : World} {c : Value} {rows : List ND} {j : Nat} (h : CopyI w W c rows j) : Below w.heap.size w W := by
  obtain ⟨ow', _, hk⟩ := h
  exact hk.below (Nat.le_refl _) (by intro b hb; simp [owC, hb])

theorem idxOf?_take {rows : List ND} (hd : rows.Nodup) {j : Nat} {x : ND} (hx : rows[j]? = some x) : (rows.take j).idxOf? x = none := by
  refine List.idxOf?_eq_none_iff.2 fun hm => ?_
  obtain ⟨i, hi⟩ := List.mem_iff_getElem?.1 hm
  rw [List.getElem?_take] at hi
  split at hi
  · have h1 := idxOf?_get hd hi
    have h2 := idxOf?_get hd hx
    rw [h1] at h2
    cases h2
    omega
  · cases hi

set_option maxRecDepth 100000 in
set_option maxHeartbeats 800000 in
theorem copy_any (k : Nat) (ow : Own) (w : World) (t : Value) (rows : List ND) (h : Tab k ow w t rows) (k2 : Nat) :
    Calls Try.prog 82 #[t] w fun e w' => ∃ c ow', e = .returned c ∧ Tab k2 ow' w' c rows ∧ Kept k2 ow w ow' w' ∧ Below w.heap.size w w' := by
  have H := Lib.hid h
  have hok := h.ok
  have hle := hok.le
  obtain ⟨pb, mb, v, rfl, ht⟩ := h
  have hrd := rd_own ht.hr
  obtain ⟨a, c, rfl⟩ := hrd.slice
  have lp := lt_of_block ht.hp
  have HT := Lib.hid ht
  clear ht hrd
  go_enter Try.func82, Try.ntmps82
  go_wp2_with (first
    | (go_at_call 70; refine (alive_yes k ow _ _ rows H.out).mono ?_; rintro e w' ⟨rfl, rfl⟩)
    | (go_at_call 41; refine (new_any 1 (owC w) w).mono ?_; rintro e w1 ⟨tc, ow1, rfl, ht1, hk1, hb1⟩; have c5 : w1.cell? ⟨pb, 0, none⟩ = some (.slice a rows.length c) := (hb1.cell (p := ⟨pb, 0, none⟩) lp).trans (cell_of HT.out.hp rfl)))
  have HI0 : Hid (CopyI w w1 tc rows 0) := ⟨ow1, by simpa using ht1, hk1⟩
  obtain ⟨pc, mc, vc, rfl, hat1⟩ := ht1
  clear hat1 hk1 hb1
  go_loopw [4, 5, 15] (fun _ _ i W => ∃ j : Nat, j ≤ rows.length ∧ i = .int .i64 j ∧ CopyI w W (.pointer (some ⟨pc, 0, none⟩)) rows j) (fun _ _ i _ => rows.length - (intOf i).toNat)
  case atStart => exact ⟨0, by omega, rfl, HI0.out⟩
  case round =>
    obtain ⟨j, hj, rfl, hI⟩ := hrel
    by_cases hlt : j < rows.length
    · obtain ⟨x, hx⟩ : ∃ x, rows[j]? = some x := ⟨_, List.getElem?_eq_getElem hlt⟩
      obtain ⟨rs, hrs⟩ : ∃ rs, rs = rows.take j := ⟨_, rfl⟩
      obtain rfl : rs.length = j := by rw [hrs]; simp; omega
      have hlen : (rows.take rs.length).length = rs.length := by rw [← hrs]
      obtain ⟨g, c', hv, hg, hc⟩ := own_some HT.out.hr (by omega)
      cases hv
      have hbl := hI.bel
      have d0 : wr.cell? ⟨g, rs.length * 4, none⟩ = some (.int .i64 x.kind) := (hbl.cell (p := ⟨g, rs.length * 4, none⟩) hg).trans (hc _ _ (nodeCells_at rows _ x hx 0 (by omega)))
      have d1 : wr.cell? ⟨g, rs.length * 4 + 1, none⟩ = some (.string x.name) := (hbl.cell (p := ⟨g, rs.length * 4 + 1, none⟩) hg).trans (hc _ _ (nodeCells_at rows _ x hx 1 (by omega)))
      have d2 : wr.cell? ⟨g, rs.length * 4 + 2, none⟩ = some (.int .i64 x.l) := (hbl.cell (p := ⟨g, rs.length * 4 + 2, none⟩) hg).trans (hc _ _ (nodeCells_at rows _ x hx 2 (by omega)))
      have d3 : wr.cell? ⟨g, rs.length * 4 + 3, none⟩ = some (.int .i64 x.r) := (hbl.cell (p := ⟨g, rs.length * 4 + 3, none⟩) hg).trans (hc _ _ (nodeCells_at rows _ x hx 3 (by omega)))
      have hI' := hI
      obtain ⟨ow', ⟨pc', mc', vc', hpe, htc⟩, hkc⟩ := hI
      cases hpe
      have HJ := Lib.hid hI'
      obtain ⟨a', c'', rfl⟩ := own_slice htc.hr
      rw [← hrs] at htc
      have e5 : wr.cell? ⟨pc, 0, none⟩ = some (.slice a' rs.length c'') := cell_of htc.hp rfl
      have e4 : wr.cell? ⟨pc, 1, none⟩ = some (.map (some mc')) := cell_of htc.hp rfl
      have lpc := lt_of_block htc.hp
      have m2 := htc.hr
      obtain ⟨i0, hi0, hz0, hz1, hz2⟩ := info_parts infoNode
      have hq : ∀ W, Below wr.heap.size wr W → W.heap[pc]? = some (.cells #[.slice a' rs.length c'', .map (some mc')] 48 (0, 0)) := fun W hb => (hb.block pc lpc).trans htc.hp
      have n1 : (Value.slice a' rs.length c'').ownBlock ≠ some pc := own_ne m2 htc.hp (by intro cur fr e; cases e)
      have HQ := Lib.hid hq
      have HC := Lib.hid htc
      have HX := Lib.hid hx
      have HK := Lib.hid hkc
      have N1 := Lib.hid n1
      have HRS := Lib.hid hrs
      have HLN := Lib.hid hlen
      have lmc := htc.hm.lt
      have hlo : rs.length ≤ 1024 := by omega
      clear hq htc hx hkc hc hI' n1 hbl hrs hlen
      have hb4 : Below wr.heap.size wr (wr.alloc (.cells #[.int .i64 x.kind, .string x.name, .int .i64 x.l, .int .i64 x.r] 58)) := below_alloc wr _
      have hbx : Boxed (wr.alloc (.cells #[.int .i64 x.kind, .string x.name, .int .i64 x.l, .int .i64 x.r] 58)) wr.heap.size x := boxed_new wr x _
      have lB : wr.heap.size < (wr.alloc (.cells #[.int .i64 x.kind, .string x.name, .int .i64 x.l, .int .i64 x.r] 58)).heap.size := by simp
      go_wp2
      generalize hw3 : wr.alloc (.cells #[.int .i64 x.kind, .string x.name, .int .i64 x.l, .int .i64 x.r] 58) = w3 at *
      clear hw3 d0 d1 d2 d3
      obtain ⟨k0, k1, k2', k3⟩ := hbx
      have ht3 := HC.out.below hb4
      have k4 : w3.cell? ⟨pc, 1, none⟩ = some (.map (some mc')) := cell_of ht3.hp rfl
      have k5 : w3.cell? ⟨pc, 0, none⟩ = some (.slice a' rs.length c'') := cell_of ht3.hp rfl
      have m1 := ht3.hr
      have lp3 : pc < w3.heap.size := lt_of_block ht3.hp
      have HT3 := Lib.hid ht3
      have HB4 := Lib.hid hb4
      clear ht3 hb4 e4 e5 m2
      go_region_law (refine step_append_lies _ rfl (.tmp 24) (.tmp 26) 22 rfl 0 58 i0 _ 4 40 Try.underlying22 hi0 hz0 hz1 hz2 rfl (by decide) _ rs.length (nodeCells rs) (by simp [Act.eval]; rfl) (by exact m1.alloc _) ⟨w3.heap.size, 0, none⟩ 1 1 (ND.cells x) (by simp [Act.eval]) rfl (World.news_of_block (heap_alloc_new' _ _ rfl)) (by simp [ND.cells, Value.oneCell']) (by decide) (by unfold maxLen; omega) (by omega) (by simp) _ rfl ?_; intro g cap w4 hown hgrow hat hlt; have hgr : w3.grownBy w4 (Value.slice a' rs.length c'').ownBlock := grown_ad hgrow; have q1 := (hgr.block pc lp3 (Ne.symm N1.out)).trans HT3.out.hp; have q2 : w4.cell? ⟨pc, 0, none⟩ = some (.slice a' rs.length c'') := cell_of q1 rfl; have q3 := frozen_of (i := 0) q1; have Q1 := Lib.hid q1; clear q1 hgrow)
      all_goals
        have hM := mid_of (Nat.le_of_lt (by simp; omega)) lpc lmc HB4.out lB HC.out.cp HC.out.cm HC.out.cr (fun g hg => (HC.out.hr.lt g hg).2) N1.out (by
          obtain ⟨_, ⟨es, clock, hes, _⟩, _⟩ := HC.out.hm
          exact own_ne HC.out.hr hes (by intro cur fr e; cases e)) Q1.out HT3.out.hm ⟨k0, k1, k2', k3⟩ hown hat hgr
        clear hown hat hgr q2 q3 Q1 k0 k1 k2' k3 k4 k5 m1 HT3 HB4
        generalize w4.setCell ⟨pc, 0, none⟩ (.slice (some ⟨g, 0, none⟩) (rs.length + 1) cap) = w5 at *
        have hxr : rs.idxOf? x = none := by rw [HRS.out]; exact idxOf?_take hok.nodup HX.out
        have hfx : fits rs.length x = 0 := hok.fit _ _ HX.out
        obtain ⟨kl, hkl⟩ := nodeKey_fits hfx (by omega)
        obtain ⟨w6, hrun, ht6, ho6⟩ := TM.put (w := w5.drew) (hM.hm.below (below_drewN w5 1)) lawNode ND.val_inj Try.underlying46 hkl rs.length
        have k4 : w5.cell? ⟨pc, 1, none⟩ = some (.map (some mc')) := cell_of hM.hp rfl
        obtain ⟨c0, c1, c2, c3⟩ := hM.bx
        have hfin := mid_end hM HC.out.ok hfx hxr (by omega) lpc lmc HC.out.cp HC.out.cm ht6 ho6
        have HF : Hid (CopyI w w6 (.pointer (some ⟨pc, 0, none⟩)) rows (rs.length + 1)) := by
          obtain ⟨ow6, hk6, ht6⟩ := hfin
          refine ⟨ow6, ?_, HK.out.trans hk6⟩
          have : rows.take (rs.length + 1) = rs ++ [x] := by
            rw [List.take_add_one, ← HRS.out, HX.out]; rfl
          rw [this]; exact ht6
        have hrun' : (Instr.mapUpdate 46 (.map (some mc')) (.agg #[.int .i64 x.kind, .string x.name, .int .i64 x.l, .int .i64 x.r]) (.int .i64 (rs.length : Int))).run Try.prog w5.drew = .ok () w6 := hrun
        clear hM ht6 ho6 hfin hrun hkl hxr hfx
        go_wp2
        go_region
        go_wp2
        exact ⟨⟨rs.length + 1, by omega, by go_num, HF.out⟩, by simp [intOf]; omega⟩
    · have hjn : j = rows.length := by omega
      subst hjn
      have hfin : ∃ ow', Tab k2 ow' wr (.pointer (some ⟨pc, 0, none⟩)) rows ∧ Kept k2 ow w ow' wr ∧ Below w.heap.size w wr := by
        have hb := hI.bel
        obtain ⟨ow', htc, hkc⟩ := hI
        rw [List.take_length] at htc
        refine ⟨fun b => if b < w.heap.size then ow b else k2, htc.recolour (fun b hb => ?_), ⟨hb.os, hb.tape, hb.output, hb.size, fun b hb => by simp [hb], fun b hl _ => hb.block b hl⟩, hb⟩
        by_cases hl : b < w.heap.size
        · have := hkc.own b hl
          rw [hb] at this
          simp [owC, hl] at this
        · simp [hl]
      have HF := Lib.hid hfin
      clear hI hfin
      go_wp2
      go_ret
      obtain ⟨ow', h1, h2, h3⟩ := HF.out
      exact ⟨_, ow', rfl, h1, h2, h3⟩


end Go.Dk

