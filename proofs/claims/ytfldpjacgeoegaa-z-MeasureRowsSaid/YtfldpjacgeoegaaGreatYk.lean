/- counts: the loop over Backward. -/
import Derived.Test.YtfldpjacgeoegaaGreatYj
namespace Go.Dk
open Go.RowKit Go.Maps Go.MapKept Go.Shelf
open Go.Proofs hiding intOf

attribute [local go_sem] Oper.semAt_some

/-- What has been counted when the rows at the places pre have been gone through. -/
def cntPre (rows : List ND) (id : Nat) (zs : List Int) (pre : List Nat) : Cnt := pre.foldl (fun f x => stepC (rowAt rows (zs[x]?.getD 0).toNat) (zs[x]?.getD 0).toNat f) (occ rows id 0)
theorem cntPre_snoc (rows : List ND) (id : Nat) (zs : List Int) (pre : List Nat) (x : Nat) : cntPre rows id zs (pre ++ [x]) = stepC (rowAt rows (zs[x]?.getD 0).toNat) (zs[x]?.getD 0).toNat (cntPre rows id zs pre) := by simp [cntPre]
theorem cntPre_in (rows : List ND) (id : Nat) (zs : List Int) (pre : List Nat) : CIn (cntPre rows id zs pre) := by
  have key : ∀ (pre : List Nat) (f : Cnt), CIn f → CIn (pre.foldl (fun f x => stepC (rowAt rows (zs[x]?.getD 0).toNat) (zs[x]?.getD 0).toNat f) f) := by
    intro pre
    induction pre with
    | nil => intro f h; exact h
    | cons x t ih => intro f h; exact ih _ (h.step _ _)
  exact key pre _ (occ_in rows id 0)

/-- Gone through from the end down: all is counted. -/
theorem occ_fold {rows : List ND} (ok : Ok rows) {i : Nat} (hi : i < rows.length) : ∀ k, k ≤ i + 1 → occ rows i k = ((((List.range (i + 1)).reverse.take k).filter fun j => decide (j ∈ below rows i)).foldl (fun f y => stepC (rowAt rows y) y f) (occ rows i 0)) := by
  intro k
  induction k with
  | zero => intro _; simp
  | succ k ih =>
    intro hk
    have hg : (List.range (i + 1)).reverse[k]? = some (i - k) := by
      rw [List.getElem?_reverse (by simp; omega)]
      rw [List.getElem?_range (by simp; omega)]
      simp
    rw [List.take_add_one, hg, Option.toList_some, List.filter_append, List.foldl_append, ← ih (by omega)]
    by_cases hm : i - k ∈ below rows i
    · simp [hm, occ]
    · have h0 : tot (occ rows i k) (i - k) = 0 := by
        apply Classical.byContradiction
        intro hn
        exact hm ((mem_below ok).2 (occ_reach hi (by omega) hn))
      have : occ rows i (k + 1) = occ rows i k := step_zero (occ_in rows i k) h0
      simp [hm, this]
theorem cntPre_all {rows : List ND} (ok : Ok rows) {i : Nat} (hi : i < rows.length) : cntPre rows i (natInts (below rows i)) (downTo (natInts (below rows i)).length (natInts (below rows i)).length) = occs rows i := by
  have e1 : (downTo (natInts (below rows i)).length (natInts (below rows i)).length).map (fun x => ((natInts (below rows i))[x]?.getD 0).toNat) = (below rows i).reverse := by
    apply List.ext_getElem
    · simp [downTo, natInts]
    · intro j h1 h2
      have hj : j < (below rows i).length := by simpa using h2
      simp only [downTo, List.map_map, List.getElem_map, List.getElem_range, Function.comp, List.getElem_reverse, natInts, List.length_map, List.getElem?_map]
      rw [List.getElem?_eq_getElem (by omega)]
      simp
  have e2 : cntPre rows i (natInts (below rows i)) (downTo (natInts (below rows i)).length (natInts (below rows i)).length) = (below rows i).reverse.foldl (fun f y => stepC (rowAt rows y) y f) (occ rows i 0) := by
    rw [← e1, List.foldl_map]; rfl
  rw [e2]
  unfold occs
  rw [occ_fold ok hi (i + 1) (Nat.le_refl _)]
  congr 1
  rw [List.take_of_length_le (by simp), List.filter_reverse]
  congr 1
  unfold below
  refine List.filter_congr fun x hx => ?_
  exact decide_eq_decide.2 ⟨fun h => List.mem_filter.2 ⟨hx, by simpa using h⟩, fun h => by simpa using (List.mem_filter.1 h).2⟩

/-- In the loop of counts: mb the map, bt the box of the table's pointer, bo the box of the map. -/
structure CntI (rows : List ND) (i : Nat) (w w5 : World) (mb bt bo : Nat) (pre : List Nat) (W : World) : Prop where
  cm : CM rows.length W mb (cntPre rows i (natInts (below rows i)) pre)
  tb : W.heap[bt]? = w5.heap[bt]?
  ob : W.heap[bo]? = w5.heap[bo]?
  bel : Below w.heap.size w W
  sz : w5.heap.size ≤ W.heap.size
theorem CntI.grown {rows : List ND} {i : Nat} {w w5 : World} {mb bt bo : Nat} {pre : List Nat} {W W' : World} (h : CntI rows i w w5 mb bt bo pre W) (hg : W.grownBy W' (some mb)) (ht : bt < w5.heap.size ∧ bt ≠ mb) (ho : bo < w5.heap.size ∧ bo ≠ mb) (hm : w.heap.size ≤ mb)
    {pre' : List Nat} (hc : CM rows.length W' mb (cntPre rows i (natInts (below rows i)) pre')) : CntI rows i w w5 mb bt bo pre' W' :=
  ⟨hc, (hg.block bt (Nat.lt_of_lt_of_le ht.1 h.sz) (fun e => ht.2 (Option.some.inj e))).trans h.tb, (hg.block bo (Nat.lt_of_lt_of_le ho.1 h.sz) (fun e => ho.2 (Option.some.inj e))).trans h.ob,
   h.bel.trans ((Below.refl _ _).grown hg h.bel.size (by intro k hk; cases hk; exact hm)), Nat.le_trans h.sz hg.size⟩
theorem CntI.put {rows : List ND} {i : Nat} {w w5 : World} {mb bt bo : Nat} {pre : List Nat} {W W' : World} (h : CntI rows i w w5 mb bt bo pre W) {r : Option Nat} (hg : W.grownBy W' r) (hr : ∀ q, r = some q → w5.heap.size ≤ q) (ht : bt < w5.heap.size) (ho : bo < w5.heap.size) (hm : mb < w5.heap.size) (hw : w.heap.size ≤ w5.heap.size) : CntI rows i w w5 mb bt bo pre W' := by
  have ne : ∀ b, b < w5.heap.size → r ≠ some b := fun b hb e => by have := hr b e; omega
  exact ⟨h.cm.same (hg.block mb (Nat.lt_of_lt_of_le hm h.sz) (Ne.symm (ne mb hm))), (hg.block bt (Nat.lt_of_lt_of_le ht h.sz) (Ne.symm (ne bt ht))).trans h.tb, (hg.block bo (Nat.lt_of_lt_of_le ho h.sz) (Ne.symm (ne bo ho))).trans h.ob,
    h.bel.trans ((Below.refl _ _).grown hg h.bel.size (by intro k hk; have := hr k hk; omega)), Nat.le_trans h.sz hg.size⟩

theorem place_row {rows : List ND} (ok : Ok rows) {i : Nat} (hi : i < rows.length) (x : Nat) : ∃ y : Nat, (natInts (below rows i))[x]?.getD 0 = (y : Int) ∧ y < rows.length := by
  by_cases hx : x < (below rows i).length
  · refine ⟨(below rows i)[x], by simp [natInts, hx], ?_⟩
    have := ((mem_below ok).1 (List.getElem_mem hx)).le ok
    omega
  · exact ⟨0, by simp [natInts, hx], by omega⟩

set_option maxRecDepth 100000 in
set_option maxHeartbeats 2000000 in
theorem counts_any (k : Nat) (ow : Own) (w : World) (t : Value) (rows : List ND) (h : Tab k ow w t rows) (i : Nat) (hi : i < rows.length) :
    Calls Tryz.prog 54 #[t, .int .i64 (i : Int)] w fun e w' => ∃ mb, e = .returned (.map (some mb)) ∧ CM rows.length w' mb (occs rows i) ∧ w.heap.size ≤ mb ∧ Below w.heap.size w w' := by
  have H := Lib.hid h
  have hok := h.ok
  have hle := hok.le
  obtain ⟨pb, hpb⟩ := h.ptr
  subst hpb
  have hmm := @run_makeMap Tryz.prog
  have hm0 : CM rows.length ((w.alloc (.cells #[.pointer (some ⟨pb, 0, none⟩)] 23)).alloc (.map #[] 0)) (w.heap.size + 1) (fun _ => (0, 0)) := by
    have := TM.made Tryz.prog 3 natV pairV (w.alloc (.cells #[.pointer (some ⟨pb, 0, none⟩)] 23))
    rw [World.size_alloc] at this
    exact ⟨_, this, fun _ => rfl, fun x hx => by cases hx⟩
  obtain ⟨w3, hins, hm3, ho3⟩ := hm0.put hi (by omega) 1 0
  have hB3 : Below w.heap.size w w3 := (below_trans (below_alloc w _) (below_alloc _ _)).trans (ho3.below (by omega))
  have hz3 : w3.heap.size = w.heap.size + 1 + 1 := by rw [ho3.size]; simp
  have hp3 : w3.heap[w.heap.size]? = some (.cells #[.pointer (some ⟨pb, 0, none⟩)] 23 (0, 0)) := by
    exact (ho3.block _ (by omega)).trans (((below_alloc (w.alloc (.cells #[.pointer (some ⟨pb, 0, none⟩)] 23)) (.map #[] 0)).block _ (by simp)).trans (heap_alloc_new' _ _ rfl))
  have HM3 : Hid (CM rows.length w3 (w.heap.size + 1) (occ rows i 0)) := hm3
  have HB3 := Lib.hid hB3; have HZ3 := Lib.hid hz3; have HP3 := Lib.hid hp3
  have c3 : w3.cell? ⟨w.heap.size, 0, none⟩ = some (.pointer (some ⟨pb, 0, none⟩)) := cell_of hp3 rfl
  have hz3' : w.heap.size < w3.heap.size := by omega
  clear h hm0 hm3 ho3 hB3 hz3 hp3
  refine (callsIn_wide (n := 8)).1 ?_
  refine callsIn_of_wp_marks Tryz.func54 rfl trivial ?_ rfl
  simp only [Tryz.ntmps54, List.size_toArray, List.length_cons, List.length_nil, Nat.reduceAdd, Nat.reduceSub, Array.replicate_succ, Array.replicate_zero, List.push_toArray, List.append_toArray, List.nil_append, List.cons_append]
  gi_wp2_with (first
    | (refine ⟨trivial, ?_⟩; gi_at_call 51; refine (callsIn_wide.2 (below_yes k ow _ _ _ (H.out.below (below_trans HB3.out (below_alloc _ _))) i hi)).mono ?_; rintro e w4 ⟨v4, rfl, hown4, hb4⟩; obtain ⟨a4, c4, hv4⟩ := own_slice hown4; subst hv4; have HO4 := Lib.hid hown4; have HB4 := Lib.hid hb4; clear hown4 hb4)
    | (refine ⟨trivial, ?_⟩; gi_at_call 69; refine (backward_in Fence.wide _ trivial rfl _ _ _ _).mono ?_; rintro e w5 ⟨rfl, rfl⟩)
    | fail)
  have HN : Hid ((natInts (below rows i)).length = (below rows i).length) := by unfold Hid; simp [natInts]
  have hlb := below_le rows i
  obtain ⟨w5, hw5⟩ : ∃ w5, w5 = w4.alloc (.cells #[.slice a4 (below rows i).length c4] 33) := ⟨_, rfl⟩
  rw [← hw5]
  have HW5 := Lib.hid hw5
  clear hw5
  have hb45 : Below w4.heap.size w4 w5 := by rw [HW5.out]; exact below_alloc _ _
  have hb35 : Below w3.heap.size w3 w5 := below_trans (below_trans (below_alloc _ _) HB4.out) hb45
  have HZ5 := Lib.hid (show w4.heap.size < w5.heap.size by rw [HW5.out]; simp)
  have HO5 : Hid (w5.ownsRow (w3.alloc (.cells #[.map (some (w.heap.size + 1))] 82)).heap.size 3 1 (.slice a4 (below rows i).length c4) (below rows i).length (ints (natInts (below rows i)))) := HO4.out.kept (row := none) ⟨hb45.os, hb45.tape, hb45.output, hb45.size, fun j hj _ => hb45.block j hj⟩ (by cases (Value.slice a4 (below rows i).length c4).ownBlock <;> simp)
  have HSS : Hid (∀ g, (g = w4.heap.size ∨ (Value.slice a4 (below rows i).length c4).ownBlock = some g) → g < w5.heap.size) := fun g hg => by
    rcases hg with rfl | hg
    · exact HZ5.out
    · exact (HO5.out.lt g hg).2
  have HNM : Hid (∀ g, (g = w4.heap.size ∨ (Value.slice a4 (below rows i).length c4).ownBlock = some g) → w.heap.size + 1 ≠ g) := fun g hg => by
    have h3 := HZ3.out
    have h4 := HB4.out.size
    rcases hg with rfl | hg
    · simp at h4; omega
    · have := (HO5.out.lt g hg).1
      simp at this; omega
  have HLT : Hid (w.heap.size < w5.heap.size ∧ w3.heap.size < w5.heap.size ∧ w.heap.size + 1 < w5.heap.size ∧ w.heap.size ≤ w5.heap.size) := by
    have h3 := HZ3.out
    have h4 := HB4.out.size
    have h5 := HZ5.out
    simp at h4
    unfold Hid; omega
  have HPT : Hid (w5.heap[w.heap.size]? = some (.cells #[.pointer (some ⟨pb, 0, none⟩)] 23 (0, 0))) := (hb35.block _ hz3').trans HP3.out
  have HPO : Hid (w5.heap[w3.heap.size]? = some (.cells #[.map (some (w.heap.size + 1))] 82 (0, 0))) := ((below_trans HB4.out hb45).block _ (by simp)).trans (heap_alloc_new' _ _ rfl)
  have HI0 : Hid (CntI rows i w w5 (w.heap.size + 1) w.heap.size w3.heap.size [] w5) := ⟨HM3.out.below hb35, rfl, rfl, HB3.out.trans (hb35.mono HB3.out.size), Nat.le_refl _⟩
  clear hb45 hb35 c3 hz3' hins hmm
  refine wpIn_rangeFunc_ownG (I := CntI rows i w w5 (w.heap.size + 1) w.heap.size w3.heap.size) (Ix := fun _ _ _ => False)
    (Kp := KeepS fun g => g = w4.heap.size ∨ (Value.slice a4 (below rows i).length c4).ownBlock = some g)
    rfl (by omega) (gf := 97) (lb := #[.pointer (some ⟨w4.heap.size, 0, none⟩)]) rfl trivial (enters_of Tryz.func97 (by kernel_rfl) rfl)
    (backward_stops Fence.wide _ trivial rfl (by omega) w4.heap.size (.slice a4 (below rows i).length c4) (natInts (below rows i)) ?hreach _ w5 ?hS (.inl rfl) ?hBs ?hr ?hSb) keepS_t ?hKb (Below.refl _ _) (fun _ => rfl) ?hI (fun _ _ _ _ _ hs _ _ => hs) ?h0
    (fun x => { tmps := #[.pointer (some ⟨pb, 0, none⟩), .int .i64 (i : Int), .pointer (some ⟨w.heap.size, 0, none⟩), undef, .map none, .pointer (some ⟨w3.heap.size, 0, none⟩), .slice a4 (below rows i).length c4, .int .i64 0, undef, .int .i64 ((natInts (below rows i))[x]?.getD 0), undef, undef, undef, undef, .map (some (w.heap.size + 1)), .int .i64 (i : Int), .agg #[.int .i64 1, .int .i64 0], .map (some (w.heap.size + 1)), .tuple #[.slice a4 (below rows i).length c4, .int .i64 0], .pointer (some ⟨pb, 0, none⟩), .int .i64 (i : Int), .tuple #[.slice a4 (below rows i).length c4, .int .i64 0], .slice a4 (below rows i).length c4, .int .i64 0, .slice a4 (below rows i).length c4, .func (.func 97) #[] #[.pointer (some ⟨w4.heap.size, 0, none⟩)], .int .i64 (x : Int), .int .i64 ((natInts (below rows i))[x]?.getD 0), undef, undef, undef, undef, undef, undef, undef, undef, undef, undef, undef, undef, undef, undef, undef, undef, undef, undef, undef, undef, undef, undef, undef, undef, undef, undef, undef, undef, undef, undef, undef, undef, undef, undef, undef, undef, undef, undef, undef, undef], defers := [] }) ?assign ?body ?done ?stop
  case hreach => rw [HN.out]; omega
  case hS => exact HSS.out
  case hBs => exact ⟨_, by rw [HW5.out]; exact heap_alloc_new' _ _ rfl⟩
  case hr =>
    rw [HN.out]
    have := HO5.out
    exact ⟨this.1, this.2.imp id (fun ⟨g, cap, cur, h1, h2, h3⟩ => ⟨g, cap, cur, h1, Nat.zero_le _, h3⟩)⟩
  case hSb => exact fun g hg => .inr hg
  case hKb => exact keepS_b HSS.out
  case hI => exact fun s A B row hs hg hr => hs.put hg (fun q hq => (hr q hq).1) HLT.out.1 HLT.out.2.1 HLT.out.2.2.1 HLT.out.2.2.2
  case h0 => exact HI0.out
  case assign =>
    intro l x W K hK
    unfold placeV
    gi_wp2
    exact hK
  case body =>
    rintro l pre x W hI hlt
    obtain ⟨y, hy, hyr⟩ := place_row hok hi x
    rw [hy]
    have HY := Lib.hid hy
    have hrw := rowAt_get hyr
    have hfn := fits_le (hok.fit _ _ hrw)
    have hprt := hok.parts hrw
    have HF : Hid (cntPre rows i (natInts (below rows i)) (pre ++ [x]) = stepC (rowAt rows y) y (cntPre rows i (natInts (below rows i)) pre)) := by
      have := cntPre_snoc rows i (natInts (below rows i)) pre x
      rw [HY.out] at this; exact this
    generalize rowAt rows y = n at hrw HF hfn hprt
    obtain ⟨kd, nm, a', b'⟩ := n
    simp only at hfn hprt
    obtain ⟨a, rfl⟩ := Int.eq_ofNat_of_zero_le hfn.2.2.1.1
    obtain ⟨b, rfl⟩ := Int.eq_ofNat_of_zero_le hfn.2.2.2.1
    have HRW := Lib.hid hrw
    have HJ := Lib.hid hI
    have HIN := Lib.hid (cntPre_in rows i (natInts (below rows i)) pre)
    have c1 : W.cell? ⟨w.heap.size, 0, none⟩ = some (.pointer (some ⟨pb, 0, none⟩)) := cell_of (hI.tb.trans HPT.out) rfl
    have HD1 : Hid (w.heap.size < w5.heap.size ∧ w.heap.size ≠ w.heap.size + 1) := ⟨HLT.out.1, by omega⟩
    have HD2 : Hid (w3.heap.size < w5.heap.size ∧ w3.heap.size ≠ w.heap.size + 1) := ⟨HLT.out.2.1, by have := HZ3.out; omega⟩
    have HFIN : Hid (∀ W', W.grownBy W' (some (w.heap.size + 1)) → CM rows.length W' (w.heap.size + 1) (cntPre rows i (natInts (below rows i)) (pre ++ [x])) → KeepsFrom w5.heap.size W W' ∧ KeepS (fun g => g = w4.heap.size ∨ (Value.slice a4 (below rows i).length c4).ownBlock = some g) W W' ∧ CntI rows i w w5 (w.heap.size + 1) w.heap.size w3.heap.size (pre ++ [x]) W') := fun W' hg hc =>
      ⟨KeepsFrom.of_grownBy hg (fun j e => by cases e; exact HLT.out.2.2.1), keepS_grown hg (fun g hS => ⟨Nat.lt_of_lt_of_le (HSS.out g hS) HJ.out.sz, fun e => HNM.out g hS (Option.some.inj e)⟩), HJ.out.grown hg HD1.out HD2.out (by omega) hc⟩
    clear hI hlt hy hrw
    rcases kind_split hfn.2.1 with ⟨h3, hs⟩ | ⟨h3, hs⟩
    · have HS := Lib.hid hs
      have HE : Hid (cntPre rows i (natInts (below rows i)) (pre ++ [x]) = cntPre rows i (natInts (below rows i)) pre) := by rw [Hid, HF.out]; exact step_leaf h3
      clear hs h3 hfn hprt
      gi_wp2_with (first
        | (refine ⟨trivial, ?_⟩; gi_at_call 52; refine (CallsIn.inRound l (callsIn_wide.2 (node_yes k ow _ _ _ (H.out.below HJ.out.bel) y ⟨_, nm, (a : Int), (b : Int)⟩ HRW.out))).mono ?_; rintro e w6 ⟨rfl, hb6⟩; have HB6 := Lib.hid hb6; clear hb6)
        | (refine ⟨trivial, ?_⟩; gi_at_call 27; refine (CallsIn.inRound l (callsIn_wide.2 (single_yes _ ⟨kd, nm, (a : Int), (b : Int)⟩ HS.out))).mono ?_; rintro e w7 ⟨rfl, hb7⟩; have HB7 := Lib.hid hb7; have HBW := Lib.hid (below_trans (below_trans HB6.out (below_alloc _ _)) hb7); clear hb7)
        | fail)
      exact HFIN.out _ (grown_below HBW.out) (by rw [HE.out]; exact HJ.out.cm.below HBW.out)
    · have HS := Lib.hid hs
      obtain ⟨⟨p1, p2⟩, p3, p4⟩ := hprt h3
      have hal : a < rows.length := by omega
      have hbl : b < rows.length := by omega
      have HE : Hid (cntPre rows i (natInts (below rows i)) (pre ++ [x]) = addC (if kd = 5 then addC (cntPre rows i (natInts (below rows i)) pre) a (cntPre rows i (natInts (below rows i)) pre y).2 (cntPre rows i (natInts (below rows i)) pre y).1 else addC (cntPre rows i (natInts (below rows i)) pre) a (cntPre rows i (natInts (below rows i)) pre y).1 (cntPre rows i (natInts (below rows i)) pre y).2) b (cntPre rows i (natInts (below rows i)) pre y).1 (cntPre rows i (natInts (below rows i)) pre y).2) := by
        rw [Hid, HF.out]; unfold stepC; rw [if_neg (show ¬ kd < 3 by omega)]; simp only [Int.toNat_natCast]
      have HJ0 := HJ.out.cm
      have HBD : Hid ((0 ≤ (cntPre rows i (natInts (below rows i)) pre y).1 ∧ (cntPre rows i (natInts (below rows i)) pre y).1 ≤ MC) ∧ 0 ≤ (cntPre rows i (natInts (below rows i)) pre y).2 ∧ (cntPre rows i (natInts (below rows i)) pre y).2 ≤ MC) := ⟨⟨HIN.out.lo1 y, HIN.out.hi1 y⟩, HIN.out.lo2 y, HIN.out.hi2 y⟩
      generalize cntPre rows i (natInts (below rows i)) pre = f at HE HIN HJ0 HBD
      have HCM := Lib.hid HJ0
      have HNE : Hid (w3.heap.size ≠ w.heap.size + 1) := HD2.out.2
      have HMZ : Hid (w.heap.size + 1 < W.heap.size) := Nat.lt_of_lt_of_le HLT.out.2.2.1 HJ.out.sz
      clear hs hfn hprt HJ0
      by_cases h5 : kd = 5
      · subst h5
        rw [if_pos rfl] at HE
        gi_wp2_with (first | (refine ⟨trivial, ?_⟩; gi_at_call 52; refine (CallsIn.inRound l (callsIn_wide.2 (node_yes k ow _ _ _ (H.out.below HJ.out.bel) y ⟨_, nm, (a : Int), (b : Int)⟩ HRW.out))).mono ?_; rintro e w6 ⟨rfl, hb6⟩; have HB6 := Lib.hid hb6; clear hb6) | (refine ⟨trivial, ?_⟩; gi_at_call 27; refine (CallsIn.inRound l (callsIn_wide.2 (single_none _ ⟨_, nm, (a : Int), (b : Int)⟩ HS.out))).mono ?_; rintro e w7 ⟨rfl, hb7⟩; obtain ⟨d0, d1, d2, d3⟩ := (boxed_new w6 ⟨_, nm, (a : Int), (b : Int)⟩ 51).below hb7; have hbw := below_trans (below_trans HB6.out (below_alloc _ _)) hb7; have hz6 : w6.heap.size < w7.heap.size := World.block_lt_of_cell? w7 _ d0; have co : w7.cell? ⟨w3.heap.size, 0, none⟩ = some (.map (some (w.heap.size + 1))) := cell_of ((hbw.block _ (Nat.lt_of_lt_of_le HLT.out.2.1 HJ.out.sz)).trans (HJ.out.ob.trans HPO.out)) rfl; have hz3 : w3.heap.size < w7.heap.size := World.block_lt_of_cell? w7 _ co; have hcm7 := HCM.out.below hbw; have hlk := hcm7.look y (by omega); have HCM7 := Lib.hid hcm7; have HBW := Lib.hid hbw; clear hb7 hbw hcm7) | fail)
        refine ⟨trivial, ?_⟩
        refine (CallsIn.inRound l (callsIn_wide.2 (add_any _ w3.heap.size (w.heap.size + 1) rows.length a f HIN.out _ _ HBD.out.2 HBD.out.1 (((below_alloc w7 _).cell (p := ⟨w3.heap.size, 0, none⟩) hz3).trans co) (HCM7.out.below (below_alloc _ _)) hal (by omega)))).mono ?_
        rintro e w8 ⟨rfl, hg8, hcm8⟩
        have hn7 : w7.heap.size ≠ w.heap.size + 1 := by have := HMZ.out; have := HBW.out.size; omega
        have hn6 : w6.heap.size ≠ w.heap.size + 1 := by have := HMZ.out; have := HB6.out.size; omega
        have G8 := Lib.hid hg8; have HCM8 := Lib.hid hcm8
        have b8 : w8.heap[w7.heap.size]? = some (.cells #[.int .i64 (f y).1, .int .i64 (f y).2] 84 (0, 0)) := (hg8.block _ (by simp) (fun e => hn7 (Option.some.inj e))).trans (heap_alloc_new' _ _ rfl)
        have e0 := cell_of (i := 0) b8 rfl; have e1 := cell_of (i := 1) b8 rfl
        have e3 : w8.cell? ⟨w6.heap.size, 3, none⟩ = some (.int .i64 (b : Int)) := (World.cell?_of_block (hg8.block w6.heap.size (by simp; omega) (fun e => hn6 (Option.some.inj e)))).trans (((below_alloc w7 _).cell (p := ⟨w6.heap.size, 3, none⟩) hz6).trans d3)
        have co8 : w8.cell? ⟨w3.heap.size, 0, none⟩ = some (.map (some (w.heap.size + 1))) := (World.cell?_of_block (hg8.block w3.heap.size (by simp; omega) (fun e => HNE.out (Option.some.inj e)))).trans (((below_alloc w7 _).cell (p := ⟨w3.heap.size, 0, none⟩) hz3).trans co)
        clear hg8 hcm8 b8 hlk d0 d1 d2 d3 co hz3 hz6 hn6 hn7
        gi_wp2_with fail
        refine ⟨trivial, ?_⟩
        refine (CallsIn.inRound l (callsIn_wide.2 (add_any _ w3.heap.size (w.heap.size + 1) rows.length b (addC f a (f y).2 (f y).1) (HIN.out.add a HBD.out.2.1 HBD.out.1.1) _ _ HBD.out.1 HBD.out.2 co8 HCM8.out hbl (by omega)))).mono ?_
        rintro e w9 ⟨rfl, hg9, hcm9⟩
        have HFN := Lib.hid (HFIN.out w9 (((grown_below HBW.out).trans (grown_below (below_alloc _ _))).trans (G8.out.trans hg9)) (by rw [HE.out]; exact hcm9))
        clear hg9 hcm9
        gi_wp2
        exact HFN.out
      · have hk5 : (kd == 5) = false := by simpa using h5
        have HE' : Hid (cntPre rows i (natInts (below rows i)) (pre ++ [x]) = addC (addC f a (f y).1 (f y).2) b (f y).1 (f y).2) := by have := HE.out; rwa [if_neg h5] at this
        clear h5
        gi_wp2_with (first | (refine ⟨trivial, ?_⟩; gi_at_call 52; refine (CallsIn.inRound l (callsIn_wide.2 (node_yes k ow _ _ _ (H.out.below HJ.out.bel) y ⟨_, nm, (a : Int), (b : Int)⟩ HRW.out))).mono ?_; rintro e w6 ⟨rfl, hb6⟩; have HB6 := Lib.hid hb6; clear hb6) | (refine ⟨trivial, ?_⟩; gi_at_call 27; refine (CallsIn.inRound l (callsIn_wide.2 (single_none _ ⟨_, nm, (a : Int), (b : Int)⟩ HS.out))).mono ?_; rintro e w7 ⟨rfl, hb7⟩; obtain ⟨d0, d1, d2, d3⟩ := (boxed_new w6 ⟨_, nm, (a : Int), (b : Int)⟩ 51).below hb7; have hbw := below_trans (below_trans HB6.out (below_alloc _ _)) hb7; have hz6 : w6.heap.size < w7.heap.size := World.block_lt_of_cell? w7 _ d0; have co : w7.cell? ⟨w3.heap.size, 0, none⟩ = some (.map (some (w.heap.size + 1))) := cell_of ((hbw.block _ (Nat.lt_of_lt_of_le HLT.out.2.1 HJ.out.sz)).trans (HJ.out.ob.trans HPO.out)) rfl; have hz3 : w3.heap.size < w7.heap.size := World.block_lt_of_cell? w7 _ co; have hcm7 := HCM.out.below hbw; have hlk := hcm7.look y (by omega); have HCM7 := Lib.hid hcm7; have HBW := Lib.hid hbw; clear hb7 hbw hcm7) | fail)
        refine ⟨trivial, ?_⟩
        refine (CallsIn.inRound l (callsIn_wide.2 (add_any _ w3.heap.size (w.heap.size + 1) rows.length a f HIN.out _ _ HBD.out.1 HBD.out.2 (((below_alloc w7 _).cell (p := ⟨w3.heap.size, 0, none⟩) hz3).trans co) (HCM7.out.below (below_alloc _ _)) hal (by omega)))).mono ?_
        rintro e w8 ⟨rfl, hg8, hcm8⟩
        have hn7 : w7.heap.size ≠ w.heap.size + 1 := by have := HMZ.out; have := HBW.out.size; omega
        have hn6 : w6.heap.size ≠ w.heap.size + 1 := by have := HMZ.out; have := HB6.out.size; omega
        have G8 := Lib.hid hg8; have HCM8 := Lib.hid hcm8
        have b8 : w8.heap[w7.heap.size]? = some (.cells #[.int .i64 (f y).1, .int .i64 (f y).2] 84 (0, 0)) := (hg8.block _ (by simp) (fun e => hn7 (Option.some.inj e))).trans (heap_alloc_new' _ _ rfl)
        have e0 := cell_of (i := 0) b8 rfl; have e1 := cell_of (i := 1) b8 rfl
        have e3 : w8.cell? ⟨w6.heap.size, 3, none⟩ = some (.int .i64 (b : Int)) := (World.cell?_of_block (hg8.block w6.heap.size (by simp; omega) (fun e => hn6 (Option.some.inj e)))).trans (((below_alloc w7 _).cell (p := ⟨w6.heap.size, 3, none⟩) hz6).trans d3)
        have co8 : w8.cell? ⟨w3.heap.size, 0, none⟩ = some (.map (some (w.heap.size + 1))) := (World.cell?_of_block (hg8.block w3.heap.size (by simp; omega) (fun e => HNE.out (Option.some.inj e)))).trans (((below_alloc w7 _).cell (p := ⟨w3.heap.size, 0, none⟩) hz3).trans co)
        clear hg8 hcm8 b8 hlk d0 d1 d2 d3 co hz3 hz6 hn6 hn7
        gi_wp2_with fail
        refine ⟨trivial, ?_⟩
        refine (CallsIn.inRound l (callsIn_wide.2 (add_any _ w3.heap.size (w.heap.size + 1) rows.length b (addC f a (f y).1 (f y).2) (HIN.out.add a HBD.out.1.1 HBD.out.2.1) _ _ HBD.out.1 HBD.out.2 co8 HCM8.out hbl (by omega)))).mono ?_
        rintro e w9 ⟨rfl, hg9, hcm9⟩
        have HFN := Lib.hid (HFIN.out w9 (((grown_below HBW.out).trans (grown_below (below_alloc _ _))).trans (G8.out.trans hg9)) (by rw [HE'.out]; exact hcm9))
        clear hg9 hcm9
        gi_wp2
        exact HFN.out
  case done =>
    rintro D ys W hD hys hI hK
    subst hys
    have HCM := Lib.hid (by have := hI.cm; rw [cntPre_all hok hi] at this; exact this)
    have co : W.cell? ⟨w3.heap.size, 0, none⟩ = some (.map (some (w.heap.size + 1))) := cell_of (hI.ob.trans HPO.out) rfl
    have HBW := Lib.hid hI.bel
    clear hI
    gi_wp2
    refine ⟨by simp, .inl ⟨_, _, rfl, run_takeDeferred hK, ?_⟩⟩
    exact ⟨_, results_tmp rfl _ _ _, w.heap.size + 1, rfl, HCM.out.same ((grownBy_putObj' _ D _).block _ HCM.out.lt (fun e => by cases e; have := HLT.out.2.2.1; omega)), by omega, HBW.out.trans (belowK_b (w := w) (Nat.le_refl _) W D _ _ (by have := HLT.out.2.2.2; omega) hK rfl rfl)⟩
  case stop =>
    rintro D c pre W _ _ h _
    exact h.elim

end Go.Dk

