/- Layer 7: matchings sorted by their names. -/
import Derived.Test.YtfldpjacgeoegaaSv
import Derived.Shelf.SlSortCmp.WholeK
import Derived.Shelf.SlSortCmp.NoneTotal
namespace Go.Dk
open Go.RowKit Go.Maps Go.MapKept Go.Sort Go.Lib Go.Shelf
open Go.Proofs hiding intOf

def cmpS (a b : ByteArray) : Int := if a.data.toList < b.data.toList then -1 else if b.data.toList < a.data.toList then 1 else 0
theorem isNaNS_any (a : ByteArray) (w : World) : Calls Try.prog 107 #[.string a] w fun e w' => e = .returned (.bool false) ∧ w' = w := by
  go_enter Try.func107, Try.ntmps107
  go_wp2_with fail
  go_ret
  exact ⟨by simp, rfl⟩
theorem cmpS_any (a b : ByteArray) (w : World) : Calls Try.prog 69 #[.string a, .string b] w fun e w' => e = .returned (.int .i64 (cmpS a b)) ∧ w' = w := by
  go_enter Try.func69, Try.ntmps69
  go_wp2_with (go_at_call 107; refine (isNaNS_any _ _).mono ?_; rintro e w' ⟨rfl, hw⟩; rw [hw])
  · go_ret
    have h : a.data.toList < b.data.toList := by
      have : Op.bytesLess a.toList b.toList = true := by assumption
      rw [bytesLess_eq, ByteArray.toList_eq, ByteArray.toList_eq] at this; simpa using this
    exact ⟨by simp [cmpS, h], rfl⟩
  · go_ret
    have h : ¬ a.data.toList < b.data.toList := by
      have : Op.bytesLess a.toList b.toList = false := by assumption
      rw [bytesLess_eq, ByteArray.toList_eq, ByteArray.toList_eq] at this; simpa using this
    have h2 : a.data.toList ≠ b.data.toList := by
      have : (!a.toList == b.toList) = true := by assumption
      rw [ByteArray.toList_eq, ByteArray.toList_eq] at this; simpa using this
    have h3 : b.data.toList < a.data.toList := by
      apply Classical.byContradiction
      intro h3
      exact h2 (List.le_antisymm (List.not_lt.1 h3) (List.not_lt.1 h))
    exact ⟨by simp [cmpS, h, h3], rfl⟩
  · go_ret
    have h : ¬ a.data.toList < b.data.toList := by
      have : Op.bytesLess a.toList b.toList = false := by assumption
      rw [bytesLess_eq, ByteArray.toList_eq, ByteArray.toList_eq] at this; simpa using this
    have h2 : a.data.toList = b.data.toList := by
      have : (!a.toList == b.toList) = false := by assumption
      rw [ByteArray.toList_eq, ByteArray.toList_eq] at this; simpa using this
    have h3 : ¬ b.data.toList < a.data.toList := by rw [h2]; exact List.lt_irrefl _
    exact ⟨by simp [cmpS, h, h3], rfl⟩
theorem closure_any (x y : HY) (W : World) : Calls Try.prog 68 #[.agg x.cells.toArray, .agg y.cells.toArray] W fun e w' => e = .returned (.int .i64 (cmpS x.name y.name)) ∧ ∃ q os', w' = grow (W.drewN q) os' := by
  obtain ⟨xn, xf⟩ := x
  obtain ⟨yn, yf⟩ := y
  have hcon := fun W' => cmpS_any xn yn W'
  generalize cmpS xn yn = r at hcon ⊢
  unfold HY.cells
  go_enter Try.func68, Try.ntmps68
  go_wp2_with (go_at_call 69; refine (hcon _).mono ?_; rintro e w' ⟨rfl, rfl⟩)
  go_ret
  exact ⟨rfl, 0, _, by rw [alloc_eq_grow, alloc_eq_grow, grow_grow]; rfl⟩

instance : Inhabited HY := ⟨⟨ByteArray.empty, 0⟩⟩
theorem swoHY : SWO (ltOf fun x y : HY => cmpS x.name y.name) := by
  have e : ∀ x y : HY, ltOf (fun x y : HY => cmpS x.name y.name) x y = decide (x.name.data.toList < y.name.data.toList) := by
    intro x y
    unfold ltOf cmpS
    by_cases h1 : x.name.data.toList < y.name.data.toList
    · simp [h1]
    · by_cases h2 : y.name.data.toList < x.name.data.toList <;> simp [h1, h2]
  refine ⟨fun x => ?_, fun x y z h1 h2 => ?_, fun x y z h1 h2 => ?_⟩
  · rw [e]; simp [List.lt_irrefl]
  · rw [e] at *; simp only [decide_eq_true_eq] at *; exact List.lt_trans h1 h2
  · rw [e] at *; simp only [decide_eq_false_iff_not] at *; exact List.not_lt.2 (List.le_trans (List.not_lt.1 h2) (List.not_lt.1 h1))

theorem flat_hy (l : List HY) : (flatK HY.cells 2 l.toArray).toList = hyCells l := by
  apply List.ext_getElem?
  intro j
  by_cases hj : j < l.length * 2
  · have h1 : (flatK HY.cells 2 l.toArray)[j]! = (HY.cells l.toArray[j / 2]!)[j % 2]! := get_flatK _ _ _ _ (by simpa using hj)
    have hq : j / 2 < l.length := by omega
    have h2 := hyCells_at l (j / 2) _ (List.getElem?_eq_getElem hq) (j % 2) (by omega)
    rw [show j / 2 * 2 + j % 2 = j by omega] at h2
    rw [h2, Array.getElem?_toList, getElem?_pos _ j (by simpa using hj)]
    rw [getElem!_pos _ j (by simpa using hj)] at h1
    rw [h1]
    have hm : j % 2 = 0 ∨ j % 2 = 1 := by omega
    rcases hm with hm | hm <;> rw [hm] <;> simp [HY.cells, hq]
  · rw [List.getElem?_eq_none (by simpa using hj), List.getElem?_eq_none (by rw [hyCells_len]; omega)]

theorem holds_hy {w : World} {g : Nat} {cur : Array Value} {e : TypeId} {l : List HY} (hb : w.heap[g]? = some (.cells cur e (0, 0))) (ht : cur.toList.take (l.length * 2) = hyCells l) : HoldsK HY.cells 2 w g 0 l.toArray := by
  intro j hj
  have hj' : j < l.length * 2 := by simpa using hj
  refine ⟨?_, by simp [World.frozen?, hb]⟩
  have h1 : (cur.toList.take (l.length * 2))[j]? = (flatK HY.cells 2 l.toArray).toList[j]? := by rw [ht, flat_hy]
  rw [List.getElem?_take_of_lt hj', Array.getElem?_toList, Array.getElem?_toList, getElem?_pos (flatK HY.cells 2 l.toArray) j hj] at h1
  simp only [World.cell?, hb, Nat.zero_add]
  simp only [Option.isSome_none, Bool.false_eq_true, if_false]
  rw [h1, getElem!_pos _ j hj]
  rfl

theorem heap_sortedK {w : World} {g n : Nat} {os : Array Obj} {cur : Array Value} {e : TypeId} {fr : Nat × Nat} (d : Array HY) (hb : w.heap[g]? = some (.cells cur e fr)) :
    (sortWorldK HY.cells 2 w g 0 n d os).heap[g]? = some (.cells (putCells id 0 (flatK HY.cells 2 d) cur) e fr) := by
  have hg : g < w.heap.size := (Array.getElem?_eq_some_iff.1 hb).1
  unfold sortWorldK putRowK
  rw [heap_grow_old _ _ (by simpa using hg)]
  simp [putRow, mapBlock, Sort.ahead, Array.getElem?_modify, hb, onCells]
theorem grownBy_sortedK {w : World} {g n : Nat} {os : Array Obj} (d : Array HY) : w.grownBy (sortWorldK HY.cells 2 w g 0 n d os) (some g) := by
  unfold sortWorldK putRowK
  refine ⟨rfl, rfl, rfl, by simp, fun k hk hne => ?_⟩
  rw [heap_grow_old _ _ (by simpa using hk)]
  have : g ≠ k := fun e => hne (by rw [e])
  simp [putRow, mapBlock, Sort.ahead, Array.getElem?_modify, this]
theorem take_putCellsK (cur : Array Value) (F : Array Value) (h : F.size ≤ cur.size) : (putCells id 0 F cur).toList.take F.size = F.toList := by
  apply List.ext_getElem?
  intro j
  by_cases hj : j < F.size
  · rw [List.getElem?_take_of_lt hj, Array.getElem?_toList]
    simp [putCells, hj, show j < cur.size by omega]
  · rw [List.getElem?_take_eq_none (by omega), List.getElem?_eq_none (by simp; omega)]

theorem sortHY_own (w : World) (base : Nat) (v : Value) (l : List HY) (h : w.ownsRow base 60 2 v l.length (hyCells l)) (hl : l.length < 4611686018427387904) :
    Calls Try.prog 67 #[v, .func (.func 68) #[] #[]] w fun e w' => e = .returned (.tuple #[]) ∧ (∃ l', l'.Perm l ∧ (l'.Pairwise fun x y => ¬ y.name.data.toList < x.name.data.toList) ∧ w'.ownsRow base 60 2 v l'.length (hyCells l')) ∧ w.grownBy w' v.ownBlock := by
  rcases h.2 with ⟨rfl, h0⟩ | ⟨g, cap, cur, rfl, hbg, hg, h1, h2, h3, h4⟩
  · have : l = [] := List.eq_nil_of_length_eq_zero h0
    subst this
    refine (AnyF.slices_SortFunc_none Try.sortHypL none 0 _ w).mono ?_
    rintro e w' ⟨rfl, rfl⟩
    exact ⟨rfl, ⟨[], .refl _, .nil, h⟩, ⟨rfl, rfl, rfl, Nat.le_refl _, fun _ _ _ => rfl⟩⟩
  · have eg : ∀ args w, (callFunc 68 args).run Try.prog w = .ok (.enter 68 args) w := enters_of Try.func68 (by kernel_rfl) rfl
    refine (AnyQ.slices_SortFunc Try.sortHypL 2 Try.isAgg60 Try.sizeOf60 HY.cells (fun _ => rfl) (fun x v hv => by simp [HY.cells] at hv; rcases hv with rfl | rfl <;> rfl) (fun x y => cmpS x.name y.name) swoHY 68 #[] g 0 cap l.toArray w eg (fun _ _ _ _ x y => closure_any x y _) (holds_hy hg h4) (lt_of_block hg) (by simpa using hl)).mono ?_
    rintro e w' ⟨rfl, d', n, os, hp, hs, rfl⟩
    have hsz : d'.toList.length = l.length := by have := hp.1; simpa using this
    have hperm : d'.toList.Perm l := by
      have := hp.2.2
      have e1 : d'.size = l.length := by simpa using hsz
      simpa [e1, List.take_of_length_le] using this
    refine ⟨rfl, ⟨d'.toList, hperm, ?_, ?_⟩, grownBy_sortedK _⟩
    · rw [List.pairwise_iff_getElem]
      intro i j hi hj hij
      have e1 : d'.size = l.length := by simpa using hsz
      have hj' : j < d'.size := by simpa using hj
      have hi' : i < d'.size := by simpa using hi
      have := hs i j (Nat.zero_le _) hij (by rw [List.size_toArray]; omega)
      rw [getElem!_pos d' i hi', getElem!_pos d' j hj'] at this
      intro hc
      simp only [Array.getElem_toList] at hc
      simp [ltOf, cmpS, hc] at this
    · rw [hsz]
      refine ⟨by rw [hyCells_len, hsz], .inr ⟨g, cap, _, rfl, hbg, heap_sortedK _ hg, h1, h2, by simp [putCells, h3], ?_⟩⟩
      have := take_putCellsK cur (flatK HY.cells 2 d') (by simp; rw [h3]; have : d'.size = l.length := by simpa using hsz
                                                           omega)
      have e2 := flat_hy d'.toList
      simp only [size_flatK, Array.toArray_toList] at this e2
      rw [← e2, ← this]
      congr 2
      simpa using hsz.symm

end Go.Dk

