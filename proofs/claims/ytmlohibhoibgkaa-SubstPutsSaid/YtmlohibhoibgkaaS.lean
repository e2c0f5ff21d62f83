/- The heads of the statements on layer 3. -/
import Derived.Test.YtmlohibhoibgkaaL
import Derived.Test.YtmlohibhoibgkaaR
namespace Go.Dk
open Go.RowKit Go.Maps Go.MapKept
open Go.Proofs hiding intOf

def sP : ByteArray := ⟨#[112]⟩
def sQ : ByteArray := ⟨#[113]⟩
def hr1 : List ND := [⟨1, ⟨#[112]⟩, 0, 0⟩]
def hr2 : List ND := [⟨1, ⟨#[112]⟩, 0, 0⟩, ⟨1, ⟨#[113]⟩, 0, 0⟩]
def hr3 : List ND := [⟨1, ⟨#[112]⟩, 0, 0⟩, ⟨1, ⟨#[113]⟩, 0, 0⟩, ⟨3, ⟨#[]⟩, 0, 1⟩]
def hr4 : List ND := [⟨1, ⟨#[112]⟩, 0, 0⟩, ⟨1, ⟨#[113]⟩, 0, 0⟩, ⟨3, ⟨#[]⟩, 0, 1⟩, ⟨5, ⟨#[]⟩, 2, 0⟩]
def hr6 : List ND := [⟨1, ⟨#[112]⟩, 0, 0⟩, ⟨1, ⟨#[113]⟩, 0, 0⟩, ⟨3, ⟨#[]⟩, 0, 1⟩, ⟨5, ⟨#[]⟩, 2, 0⟩, ⟨2, ⟨#[]⟩, 0, 0⟩, ⟨5, ⟨#[]⟩, 0, 4⟩]

theorem hp1 : put [] ⟨1, ⟨#[112]⟩, 0, 0⟩ = ⟨hr1, 0, 0⟩ := by kernel_rfl
theorem hp2 : put hr1 ⟨1, ⟨#[113]⟩, 0, 0⟩ = ⟨hr2, 1, 0⟩ := by kernel_rfl
theorem hp3 : put hr2 ⟨3, ⟨#[]⟩, 0, 1⟩ = ⟨hr3, 2, 0⟩ := by kernel_rfl
theorem hp4 : put hr3 ⟨5, ⟨#[]⟩, 2, 0⟩ = ⟨hr4, 3, 0⟩ := by kernel_rfl
theorem hp5 : put hr4 ⟨3, ⟨#[]⟩, 0, 1⟩ = ⟨hr4, 2, 0⟩ := by kernel_rfl
theorem hp6 : notP hr4 0 = ⟨hr6, 5, 0⟩ := by kernel_rfl
theorem hp7 : put hr6 ⟨1, ⟨#[108, 101, 116]⟩, 0, 0⟩ = ⟨hr6, 0, 32⟩ := by kernel_rfl
theorem hp8 : put hr6 ⟨4, ⟨#[]⟩, 0, 9⟩ = ⟨hr6, 0, 31⟩ := by kernel_rfl
theorem hp9 : natInts (below hr6 3) = [0, 1, 2, 3] := by
  have h3 : Reach hr6 3 3 := .refl 3
  have h2 : Reach hr6 3 2 := .left (n := ⟨5, ⟨#[]⟩, 2, 0⟩) rfl (by decide) (.refl 2)
  have h0 : Reach hr6 3 0 := .right (n := ⟨5, ⟨#[]⟩, 2, 0⟩) rfl (by decide) (.refl 0)
  have h1 : Reach hr6 3 1 := h2.trans (.right (n := ⟨3, ⟨#[]⟩, 0, 1⟩) rfl (by decide) (.refl 1))
  have : below hr6 3 = [0, 1, 2, 3] := by
    unfold below
    exact List.filter_eq_self.2 fun j hj => by
      have : j < 4 := by simpa using hj
      have hr : Reach hr6 3 j := by
        match j, this with
        | 0, _ => exact h0
        | 1, _ => exact h1
        | 2, _ => exact h2
        | 3, _ => exact h3
      simp [hr]
  rw [this]; rfl

theorem kept_below {w w' : World} {ow' : Own} (h : Kept 1 (owC w) w ow' w') : Below w.heap.size w w' := h.below (Nat.le_refl _) (by intro b hb; simp [owC, hb])




end Go.Dk

