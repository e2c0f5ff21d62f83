/- More words for the walks. -/
import Derived.Test.YtmlohibhoibgkaaA
namespace Go.Dk
open Go.RowKit Go.Maps Go.MapKept

theorem below_drew1 (w : World) : Below w.heap.size w w.drew := (Below.refl _ _).drew
theorem below_sc {w W : World} {p : Addr} {u : Value} (h : Below w.heap.size w W) (hp : w.heap.size ≤ p.block) : Below w.heap.size w (W.setCell p u) := h.setCell hp u
/-- What a call that leaves the old blocks alone leaves of cells and marks. -/
theorem bcell {W w1 : World} (hb : Below W.heap.size W w1) : (∀ b o, b < W.heap.size → w1.cell? ⟨b, o, none⟩ = W.cell? ⟨b, o, none⟩) ∧ (∀ b o, b < W.heap.size → w1.frozen? ⟨b, o, none⟩ = W.frozen? ⟨b, o, none⟩) :=
  ⟨fun b o h => hb.cell (p := ⟨b, o, none⟩) h, fun b o h => hb.frozen (p := ⟨b, o, none⟩) h⟩
/-- A block that stands as it stood. -/
theorem bblock {W w1 : World} (hb : Below W.heap.size W w1) {g : Nat} {o : Obj} (h : W.heap[g]? = some o) : w1.heap[g]? = some o := (hb.block g (lt_of_block h)).trans h
theorem cells_of {w : World} {b : Nat} {cs : Array Value} {t : TypeId} (h : w.heap[b]? = some (.cells cs t (0, 0))) : (∀ i v, cs[i]? = some v → w.cell? ⟨b, i, none⟩ = some v) ∧ ∀ i, w.frozen? ⟨b, i, none⟩ = false :=
  ⟨fun _ _ hv => cell_of h hv, fun _ => frozen_of h⟩

end Go.Dk

