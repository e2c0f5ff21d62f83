/- FormulaFrom: the walk. -/
import Derived.Test.YtmlohibhoibgkaaM
import Derived.Test.YtmlohibhoibgkaaEe
import Derived.Test.YtmlohibhoibgkaaS
import Derived.Deep.MidRow
namespace Go.Dk
open Go.RowKit Go.Maps Go.MapKept
open Go.Proofs hiding intOf

theorem setCell_only (w : World) (b o : Nat) (v : Value) : Only b w (w.setCell ⟨b, o, none⟩ v) := by
  have := kept_setCell w (a := ⟨b, o, none⟩) (ow := fun x => if x = b then 1 else 0) (k := 1) (by simp) v
  exact ⟨this.os, this.tape, this.output, by simp, fun c hc => by
    by_cases hl : c < w.heap.size
    · exact this.block c hl (by simp [hc])
    · rw [Array.getElem?_eq_none (by simp; omega), Array.getElem?_eq_none (by omega)]⟩
theorem Only.trans {b : Nat} {w w1 w2 : World} (h : Only b w w1) (g : Only b w1 w2) : Only b w w2 :=
  ⟨g.os.trans h.os, g.tape.trans h.tape, g.output.trans h.output, g.size.trans h.size, fun c hc => (g.block c hc).trans (h.block c hc)⟩
theorem setCells_only (b : Nat) : ∀ (vs : List Value) (o : Nat) (w : World), Only b w (w.setCells b o vs)
  | [], _, w => ⟨rfl, rfl, rfl, rfl, fun _ _ => rfl⟩
  | v :: r, o, w => (setCell_only w b o v).trans (setCells_only b r (o + 1) _)

theorem own_there {w : World} {base : Nat} {e : TypeId} {size : Nat} {v : Value} {n : Nat} {xs : List Value} (h : w.ownsRow base e size v n xs) (hn : 0 < n) : ∃ g c, v = .slice (some ⟨g, 0, none⟩) n c ∧ w.there g 0 (n * size) ∧ base ≤ g ∧ g < w.heap.size := by
  rcases h.2 with ⟨_, rfl⟩ | ⟨g, cap, cur, rfl, hb, hg, r⟩
  · omega
  · refine ⟨g, cap, rfl, fun j hj => ?_, hb, lt_of_block hg⟩
    have hl := h.1
    have hj' : j < xs.length := by omega
    have := h.cells (g := g) rfl j _ (List.getElem?_eq_getElem hj')
    rw [show (⟨g, 0, none⟩ : Addr).add j = ⟨g, j, none⟩ by unfold Addr.add; split <;> simp_all] at this
    exact ⟨by rw [Nat.zero_add, this]; rfl, frozen_of hg⟩

theorem there4 {w : World} {g n j : Nat} (h : w.there g 0 (n * 4)) (hj : j < n) :
    ((∃ u, w.cell? ⟨g, j * 4, none⟩ = some u) ∧ w.frozen? ⟨g, j * 4, none⟩ = false) ∧ ((∃ u, w.cell? ⟨g, j * 4 + 1, none⟩ = some u) ∧ w.frozen? ⟨g, j * 4 + 1, none⟩ = false) ∧ ((∃ u, w.cell? ⟨g, j * 4 + 2, none⟩ = some u) ∧ w.frozen? ⟨g, j * 4 + 2, none⟩ = false) ∧ ((∃ u, w.cell? ⟨g, j * 4 + 3, none⟩ = some u) ∧ w.frozen? ⟨g, j * 4 + 3, none⟩ = false) := by
  have k : ∀ i, i < 4 → (∃ u, w.cell? ⟨g, j * 4 + i, none⟩ = some u) ∧ w.frozen? ⟨g, j * 4 + i, none⟩ = false := fun i hi => by
    have := h (j * 4 + i) (by omega)
    rw [Nat.zero_add] at this
    exact ⟨Option.isSome_iff_exists.1 this.1, this.2⟩
  exact ⟨k 0 (by omega), k 1 (by omega), k 2 (by omega), k 3 (by omega)⟩

theorem own_lo {w : World} {base : Nat} {e : TypeId} {size : Nat} {v : Value} {n : Nat} {xs : List Value} (h : w.ownsRow base e size v n xs) : ∀ b, b < base → v.ownBlock ≠ some b := by
  intro b hb e
  rcases h.2 with ⟨rfl, rfl⟩ | ⟨g, cap, cur, rfl, hb', hg, r⟩
  · simp [Value.ownBlock] at e
  · simp [Value.ownBlock] at e; omega
theorem there_below {w w' : World} {g o n : Nat} (h : w.there g o n) (hg : g < w.heap.size) (hb : Below w.heap.size w w') : w'.there g o n := fun j hj => by
  have hc : w'.heap[g]? = w.heap[g]? := hb.block g hg
  have h1 := h j hj
  unfold World.cell? World.frozen? at *
  simp only [hc]
  exact h1
theorem there_kept {w w' : World} {k : Nat} {ow ow' : Own} {g o n : Nat} (h : w.there g o n) (hg : g < w.heap.size) (hb : Kept k ow w ow' w') (hk : ow g ≠ k) : w'.there g o n := fun j hj => by
  have hc : w'.heap[g]? = w.heap[g]? := hb.block g hg hk
  have h1 := h j hj
  unfold World.cell? World.frozen? at *
  simp only [hc]
  exact h1

theorem Tab.ptr {k : Nat} {ow : Own} {w : World} {t : Value} {rows : List ND} (h : Tab k ow w t rows) : ∃ pb, t = .pointer (some ⟨pb, 0, none⟩) := by
  obtain ⟨pb, mb, v, e, _⟩ := h; exact ⟨pb, e⟩
theorem RTab.ptr {k : Nat} {ow : Own} {w : World} {t : Value} {rows : List ND} (h : RTab k ow w t rows) : ∃ pb, t = .pointer (some ⟨pb, 0, none⟩) := by
  obtain ⟨pb, v, e, _⟩ := h; exact ⟨pb, e⟩

structure OwnI (w W : World) (ow : Own) (v : Value) (n : Nat) : Prop where
  k : Kept 3 ow w ow W
  t : 0 < n → ∃ g c, v = .slice (some ⟨g, 0, none⟩) n c ∧ W.there g 0 (n * 4) ∧ ow g = 3

theorem OwnI.step {w W : World} {ow : Own} {g c n j : Nat} (h : OwnI w W ow (.slice (some ⟨g, 0, none⟩) n c) n) (hj : j < n) (cs : List Value) : OwnI w (W.setCells g (j * 4) cs) ow (.slice (some ⟨g, 0, none⟩) n c) n := by
  obtain ⟨g', c', e, h1, h2⟩ := h.t (by omega)
  cases e
  exact ⟨h.k.trans ((setCells_only _ _ _ _).kept h2), fun _ => ⟨_, _, rfl, World.there_setCells h1 _ _ _, h2⟩⟩








end Go.Dk

