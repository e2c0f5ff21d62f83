/- Copy of a living table. -/
import Derived.Test.YtmlohibhoibgkaaI
namespace Go.Dk
open Go.RowKit Go.Maps Go.MapKept
open Go.Proofs

theorem Tab.recolour {k k2 : Nat} {ow ow2 : Own} {w : World} {t : Value} {rows : List ND} (h : Tab k ow w t rows) (hc : ∀ b, ow b = k → ow2 b = k2) : Tab k2 ow2 w t rows := by
  obtain ⟨pb, mb, v, rfl, ⟨h1, h2, h3, h4, h5, h6, h7⟩⟩ := h
  exact ⟨pb, mb, v, rfl, h1, h2, h3, h4, hc _ h5, hc _ h6, fun g hg => hc _ (h7 g hg)⟩

def owC (w : World) : Own := fun b => if b < w.heap.size then 0 else 1

theorem kept_below' {w w' : World} {ow' : Own} (h : Kept 1 (owC w) w ow' w') : Below w.heap.size w w' := h.below (Nat.le_refl _) (by intro b hb; simp [owC, hb])

/-- In the loop of Copy. -/
structure CopyI (w W : World) (c : Value) (rows : List ND) (j : Nat) : Prop where
  ex : ∃ ow', Tab 1 ow' W c (rows.take j) ∧ Kept 1 (owC w) w ow' W

theorem CopyI.bel {w W : World} {c : Value} {rows : List ND} {j : Nat} (h : CopyI w W c rows j) : Below w.heap.size w W := by
  obtain ⟨ow', _, hk⟩ := h
  exact hk.below (Nat.le_refl _) (by intro b hb; simp [owC, hb])

theorem idxOf?_take {rows : List ND} (hd : rows.Nodup) {j : Nat} {x : ND} (hx : rows[j]? = some x) : (rows.take j).idxOf? x = none := by
  refine List.idxOf?_eq_none_iff.2 fun hm => ?_
  obtain ⟨i, hi⟩ := List.mem_iff_getElem?.1 hm
  rw [List.getElem?_take] at hi
  split at hi
  · have h1 := idxOf?_get hd hi
    have h2 := idxOf?_get hd hx
    rw [h1] at h2
    cases h2
    omega
  · cases hi




end Go.Dk

