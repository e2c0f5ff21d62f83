/- The document's Sizes, Depths, AllWeights, Grades. -/
import Derived.Test.YtfldpjacgeoegaaGreatYw
import Derived.Test.YtfldpjacgeoegaaGreatRg
import Derived.Laws.OwnMore
namespace Go.Dk
open Go.RowKit Go.Maps Go.MapKept
open Go.Proofs hiding intOf

theorem infoIntA : ∃ i, Tryz.prog.info? 3 = some i ∧ i.zero = some (.int .i64 0) ∧ i.size = 1 ∧ i.bytes = 8 := by
  obtain ⟨i, hi, h⟩ := Option.map_eq_some_iff.1 infoInt
  simp only [Prod.mk.injEq] at h
  exact ⟨i, hi, h⟩

/-- A row of numbers of the call's own. -/
structure RowI (w W : World) (b n : Nat) (zs : List Int) : Prop where
  own : W.ownsRow w.heap.size 3 1 (.slice (some ⟨b, 0, none⟩) n n) n (ints zs)
  bl : Below w.heap.size w W
theorem ints_setA (zs : List Int) (k : Nat) (x : Int) : (ints zs).set k (.int .i64 x) = ints (zs.set k x) := by simp [ints, List.map_set]
section
variable {w W W' : World} {b n : Nat} {zs : List Int}
theorem RowI.set (h : RowI w W b n zs) (k : Nat) (x : Int) : RowI w (W.setCell ⟨b, k, none⟩ (.int .i64 x)) b n (zs.set k x) := by
  have := h.own.stored k (.int .i64 x)
  rw [ints_setA] at this
  exact ⟨this.1, h.bl.grown this.2 h.bl.size (by intro q hq; cases hq; exact (h.own.lt b rfl).1)⟩
theorem RowI.below (h : RowI w W b n zs) (hb : Below W.heap.size W W') : RowI w W' b n zs := ⟨h.own.kept (row := none) ⟨hb.os, hb.tape, hb.output, hb.size, fun j hj _ => hb.block j hj⟩ (.inr (by simp [Value.ownBlock])), below_trans h.bl hb⟩
theorem RowI.len (h : RowI w W b n zs) : zs.length = n := by have := h.own.1; simpa [ints] using this
theorem RowI.cell (h : RowI w W b n zs) {k : Nat} {x : Int} (hk : zs[k]? = some x) : W.cell? ⟨b, k, none⟩ = some (.int .i64 x) := by
  have hl := (List.getElem?_eq_some_iff.1 hk).1
  have := h.len
  rw [h.own.cellAt k (by omega)]
  simp [ints, hk]
theorem RowI.fr (h : RowI w W b n zs) (k : Nat) : W.frozen? ⟨b, k, none⟩ = false := h.own.frozenAt k

end


def rowF (f : Nat → Int) (n : Nat) : List Int := (List.range n).map f
theorem rowF_at (f : Nat → Int) {n y : Nat} (h : y < n) : (rowF f n)[y]? = some (f y) := by simp [rowF, h]
theorem rowF_none (f : Nat → Int) {n y : Nat} (h : n ≤ y) : (rowF f n)[y]? = none := by simp [rowF]; omega
theorem rowF_set {f g : Nat → Int} {n x : Nat} {v : Int} (h : ∀ y, y < n → g y = if y = x then v else f y) : (rowF f n).set x v = rowF g n := by
  apply List.ext_getElem?
  intro y
  rw [List.getElem?_set]
  by_cases hy : y < n
  · rw [rowF_at g hy, rowF_at f hy, h y hy]
    by_cases e : x = y
    · subst e; rw [if_pos rfl, if_pos (by simp [rowF, hy]), if_pos rfl]
    · rw [if_neg e, if_neg (Ne.symm e)]
  · rw [rowF_none _ (by omega), rowF_none _ (by omega)]
    split
    · rw [if_neg (by simp [rowF]; omega)]
    · rfl
def upTo (of : ND → Int → Int → Int) (rows : List ND) (j y : Nat) : Int := if y < j then val of rows y else 0
theorem upTo_start (of : ND → Int → Int → Int) (rows : List ND) (n : Nat) : rowF (upTo of rows 0) n = List.replicate n 0 := by
  apply List.ext_getElem?
  intro y
  rw [List.getElem?_replicate]
  by_cases hy : y < n
  · rw [rowF_at _ hy, if_pos hy]; rfl
  · rw [rowF_none _ (by omega), if_neg hy]
theorem upTo_all (of : ND → Int → Int → Int) (rows : List ND) : rowF (upTo of rows rows.length) rows.length = vals of rows := by
  apply List.ext_getElem?
  intro y
  by_cases hy : y < rows.length
  · rw [rowF_at _ hy]
    unfold upTo val
    have : y < (vals of rows).length := by rw [vals_length]; exact hy
    rw [if_pos hy, List.getD, List.getElem?_eq_getElem this]; rfl
  · rw [rowF_none _ (by omega), List.getElem?_eq_none (by rw [vals_length]; omega)]
theorem upTo_at (of : ND → Int → Int → Int) (rows : List ND) {j y n : Nat} (h : y < j) (hn : y < n) : (rowF (upTo of rows j) n)[y]? = some (val of rows y) := by
  rw [rowF_at _ hn]; unfold upTo; rw [if_pos h]
/-- Between the first and the second store of a round. -/
def midTo (of : ND → Int → Int → Int) (rows : List ND) (j : Nat) (m : Int) (y : Nat) : Int := if y = j then m else upTo of rows j y
theorem mid_set (of : ND → Int → Int → Int) (rows : List ND) (j n : Nat) (m : Int) : (rowF (upTo of rows j) n).set j m = rowF (midTo of rows j m) n := rowF_set fun _ _ => rfl
theorem mid_next (of : ND → Int → Int → Int) (rows : List ND) (j n : Nat) (m : Int) : (rowF (midTo of rows j m) n).set j (val of rows j) = rowF (upTo of rows (j + 1)) n := rowF_set fun y _ => by
  unfold upTo midTo upTo
  by_cases e : y = j
  · subst e; simp
  · simp only [e, if_false]
    by_cases h : y < j
    · rw [if_pos h, if_pos (by omega)]
    · rw [if_neg h, if_neg (by omega)]
theorem mid_same (of : ND → Int → Int → Int) (rows : List ND) (j n : Nat) {m : Int} (h : val of rows j = m) : rowF (midTo of rows j m) n = rowF (upTo of rows (j + 1)) n := by
  rw [← mid_next of rows j n m, h, rowF_set (f := midTo of rows j m) (g := midTo of rows j m)]
  intro y _
  unfold midTo
  by_cases e : y = j
  · simp [e]
  · simp [e]
theorem mid_mid (of : ND → Int → Int → Int) (rows : List ND) (j n : Nat) (m m' : Int) : (rowF (midTo of rows j m) n).set j m' = rowF (midTo of rows j m') n := rowF_set fun y _ => by
  unfold midTo
  by_cases e : y = j
  · simp [e]
  · simp [e]
theorem mid_at (of : ND → Int → Int → Int) (rows : List ND) {j y n : Nat} (m : Int) (h : y < j) (hn : y < n) : (rowF (midTo of rows j m) n)[y]? = some (val of rows y) := by
  rw [rowF_at _ hn]; unfold midTo upTo; rw [if_neg (by omega), if_pos h]
theorem mid_at0 (of : ND → Int → Int → Int) (rows : List ND) {j n : Nat} (m : Int) (hn : j < n) : (rowF (midTo of rows j m) n)[j]? = some m := by
  rw [rowF_at _ hn]; unfold midTo; rw [if_pos rfl]

theorem cap_cap {l r : Int} (hl : 0 ≤ l ∧ l ≤ MC) (hr : 0 ≤ r ∧ r ≤ MC) : capI (1 + capI (l + r)) = capI (1 + l + r) := by
  unfold capI MC at *
  split <;> split <;> split <;> omega
theorem cap_and {l r : Int} (hl : 0 ≤ l ∧ l ≤ MC) (hr : 0 ≤ r ∧ r ≤ MC) : capI (capI (1 + capI (l + r)) + 1) = capI (2 + l + r) := by
  unfold capI MC at *
  repeat' split
  all_goals omega
theorem cap_bd {x : Int} (h : 0 ≤ x) : 0 ≤ capI x ∧ capI x ≤ MC := ⟨capI_lo _ _ h (by unfold MC; omega), capI_le _⟩

def RValsPost (w : World) (zs : List Int) (e : Ending) (w' : World) : Prop := ∃ v, e = .returned v ∧ w'.ownsRow w.heap.size 3 1 v zs.length (ints zs) ∧ Below w.heap.size w w'

/-- Where a row of a table's own lies, its part's number. -/
theorem val_parts {of : ND → Int → Int → Int} {rows : List ND} (ok : Ok rows) {j : Nat} {kd : Int} {nm : ByteArray} {l r : Nat} (hn : rows[j]? = some ⟨kd, nm, l, r⟩) (hk : 3 ≤ kd) : val of rows j = of ⟨kd, nm, l, r⟩ (val of rows l) (val of rows r) := by
  rw [val_two ok hn hk]; rfl

set_option maxRecDepth 100000 in
set_option maxHeartbeats 4000000 in
theorem refSizes_any (k : Nat) (ow : Own) (w : World) (t : Value) (rows : List ND) (h : RTab k ow w t rows) (hn0 : 0 < rows.length) :
    Calls Tryz.prog 13 #[t] w (RValsPost w (vals sizeOf rows)) := by
  have hok := h.ok
  have hle := hok.le
  obtain ⟨rb, v, rfl, ht⟩ := h
  obtain ⟨g, c, rfl, hg, _⟩ := ht.hr.get (by omega)
  have c0 : w.cell? ⟨rb, 0, none⟩ = some (.slice (some ⟨g, 0, none⟩) rows.length c) := cell_of ht.hp rfl
  have lrb : rb < w.heap.size := World.block_lt_of_cell? w _ c0
  obtain ⟨inf, hi1, hi2, hi3, hi4⟩ := infoIntA
  obtain ⟨w1, hmk1, hown1, hgr1⟩ := run_makeSlice_full (P := Tryz.prog) w w.heap.size 33 3 inf (.int .i64 0) 1 Tryz.underlying33 hi1 hi2 hi3 .i64 .i64 rows.length (by omega) (by rw [hi4]; omega) (by unfold maxLen; omega) (Nat.le_refl _)
  have hz : (madeCells (Value.int .i64 0).cells (rows.length * 1)).toList = ints (List.replicate rows.length 0) := by
    rw [show (Value.int .i64 0).cells = #[.int .i64 0] from rfl, toList_madeCells_one]
    simp [ints]
  rw [hz, ← upTo_start sizeOf rows] at hown1
  have HI : Hid (RowI w w1 w.heap.size rows.length (rowF (upTo sizeOf rows 0) rows.length)) := ⟨hown1, (Below.refl _ _).grown hgr1 (Nat.le_refl _) (by intro k hk; cases hk)⟩
  have HT := Lib.hid ht; have HK := Lib.hid hok
  clear ht hown1 hgr1 hi1 hi2 hi3 hi4 hok hz
  go_enter Tryz.func13, Tryz.ntmps13
  go_wp2_with fail
  go_loopw [4] (fun u W => ∃ j : Nat, j ≤ rows.length ∧ u = .int .i64 (j : Int) ∧ RowI w W w.heap.size rows.length (rowF (upTo sizeOf rows j) rows.length)) (fun u _ => rows.length - (intOf u).toNat)
  case atStart => exact ⟨0, Nat.zero_le _, rfl, HI.out⟩
  case round =>
    obtain ⟨j, hj, rfl, hI⟩ := hrel
    have HJ := Lib.hid hI
    by_cases hlt : j < rows.length
    · have hji : (j : Int) < (rows.length : Int) := by omega
      obtain ⟨n, hn⟩ : ∃ n, rows[j]? = some n := ⟨_, List.getElem?_eq_getElem hlt⟩
      have d0 := hI.cell (rowF_at _ hlt)
      have f0 := hI.fr j
      have hS := hI.set j 1
      rw [mid_set] at hS
      have HS := Lib.hid hS
      have htw := HT.out.below hS.bl
      obtain ⟨g', c', e, r0, r1, r2, r3, r4⟩ := htw.row hn
      cases e
      have hkk := HK.out.kinds hn
      have hprt := HK.out.parts hn
      obtain ⟨kd, nm, l, r⟩ := n
      simp only at hkk r1 r2 r3 r4 hprt
      have HRW : Hid (RRow (wr.setCell ⟨w.heap.size, j, none⟩ (.int .i64 1)) rb g c rows.length j ⟨kd, nm, l, r⟩) := ⟨r0, r1, r2, r3, r4⟩
      clear hI hS htw
      by_cases hk : kd < 3
      · have HV : Hid (val sizeOf rows j = 1) := by rw [Hid, val_one size_one hn hk 0 0, sizeOf, if_pos hk]
        have HTW : Hid (kd = 1 ∨ kd = 2) := by unfold Hid; omega
        clear hkk hprt hk hn
        go_wp2_with fail
        refine (two06_no _ kd l r nm HTW.out).mono ?_
        rintro e w5 ⟨rfl, hb5⟩
        have HF := Lib.hid (HS.out.below hb5)
        clear hb5
        go_wp2_with fail
        exact ⟨⟨j + 1, by omega, by go_num, by rw [← mid_same _ _ _ _ HV.out]; exact HF.out⟩, by simp [intOf]; omega⟩
      · have HTW : Hid (kd ≠ 1 ∧ kd ≠ 2) := by unfold Hid; omega
        obtain ⟨hl, hr⟩ := hprt (by omega)
        have HKD : Hid (3 ≤ kd) := by unfold Hid; omega
        clear hkk hk hprt
        obtain ⟨l, rfl⟩ := Int.eq_ofNat_of_zero_le hl.1
        obtain ⟨r, rfl⟩ := Int.eq_ofNat_of_zero_le hr.1
        have hlj : l < j := by omega
        have hrj : r < j := by omega
        have hl2 : (l : Int) < (rows.length : Int) := by omega
        have hr2 : (r : Int) < (rows.length : Int) := by omega
        clear hl hr
        have bl := size_bd HK.out l (by omega)
        have br := size_bd HK.out r (by omega)
        have HL : Hid (0 ≤ val sizeOf rows l ∧ val sizeOf rows l ≤ MC) := ⟨by omega, bl.2⟩
        have HR : Hid (0 ≤ val sizeOf rows r ∧ val sizeOf rows r ≤ MC) := ⟨by omega, br.2⟩
        have HV : Hid (val sizeOf rows j = capI (1 + capI (val sizeOf rows l + val sizeOf rows r))) := by
          rw [Hid, val_parts HK.out hn HKD.out, size_two (n := ⟨kd, nm, l, r⟩) HKD.out, cap_cap HL.out HR.out]
        clear hn bl br
        go_wp2_with fail
        refine (two06_yes _ kd l r nm HTW.out).mono ?_
        rintro e w5 ⟨rfl, hb5⟩
        have HF := Lib.hid (HS.out.below hb5)
        obtain ⟨s0, s1, s2, s3, s4⟩ := HRW.out.below hb5
        simp only at s3 s4
        clear hb5
        go_wp2_with fail
        obtain ⟨I0, _, F0, L0⟩ := later w5
        have a0 := L0.cell s0
        have a3 := L0.cell s3
        have a4 := L0.cell s4
        have al := L0.cell (HF.out.cell (mid_at sizeOf rows 1 hlj (by omega)))
        have ar := L0.cell (HF.out.cell (mid_at sizeOf rows 1 hrj (by omega)))
        have aj := L0.cell (HF.out.cell (mid_at0 sizeOf rows 1 hlt))
        have af := L0.frozen (HF.out.cell (mid_at0 sizeOf rows 1 hlt)) (HF.out.fr j)
        have HLt := Lib.hid L0
        clear L0 s0 s1 s2 s3 s4 r0 r1 r2 r3 r4
        generalize hvl : val sizeOf rows l = vl at *
        generalize hvr : val sizeOf rows r = vr at *
        have HC : Hid (0 ≤ capI (vl + vr) ∧ capI (vl + vr) ≤ MC) := cap_bd (by have := HL.out.1; have := HR.out.1; omega)
        have H1 : Hid ((0 : Int) ≤ 1 ∧ (1 : Int) ≤ MC) := by unfold Hid MC; omega
        refine wp_tailW (W := F0) 27 (by kernel_rfl) (by kernel_rfl) HLt.out.drew ?_
        simp only [List.take_succ_cons, List.take_zero, List.drop_succ_cons, List.drop_zero]
        repeat (go_big_quiet_step ((first
          | (go_at_call_of 38 (capI (vl + vr)); refine Later.call_same (sum06_any 1 (capI (vl + vr)) H1.out HC.out _))
          | (go_at_call 38; refine Later.call_same (sum06_any vl vr HL.out HR.out _)))))
        refine wpQuiet_nil ?_
        intro w6 hw6
        obtain ⟨i6, hw6⟩ := hw6
        subst hw6
        go_wp2_with fail
        have HG := Lib.hid ((HF.out.below (HLt.out.bel i6)).set j (capI (1 + capI (vl + vr))))
        refine ⟨⟨j + 1, by omega, by go_num, ?_⟩, by simp [intOf]; omega⟩
        have := HG.out
        rw [← HV.out, mid_next] at this
        rw [← HV.out]
        exact this
    · obtain rfl : j = rows.length := by omega
      have HO := HJ.out
      rw [upTo_all] at HO
      have HF := Lib.hid HO
      clear hI HO
      go_wp2_with fail
      go_ret
      refine ⟨_, rfl, ?_, HF.out.bl⟩
      rw [vals_length]
      exact HF.out.own

end Go.Dk

