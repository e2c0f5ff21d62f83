/- The heads of the statements on layer 3. -/
import Derived.Test.YthbjmmnfoeanbaaL
import Derived.Test.YthbjmmnfoeanbaaR
namespace Go.Dk
open Go.RowKit Go.Maps Go.MapKept
open Go.Proofs hiding intOf

def sP : ByteArray := ⟨#[112]⟩
def sQ : ByteArray := ⟨#[113]⟩
def hr1 : List ND := [⟨1, ⟨#[112]⟩, 0, 0⟩]
def hr2 : List ND := [⟨1, ⟨#[112]⟩, 0, 0⟩, ⟨1, ⟨#[113]⟩, 0, 0⟩]
def hr3 : List ND := [⟨1, ⟨#[112]⟩, 0, 0⟩, ⟨1, ⟨#[113]⟩, 0, 0⟩, ⟨3, ⟨#[]⟩, 0, 1⟩]
def hr4 : List ND := [⟨1, ⟨#[112]⟩, 0, 0⟩, ⟨1, ⟨#[113]⟩, 0, 0⟩, ⟨3, ⟨#[]⟩, 0, 1⟩, ⟨5, ⟨#[]⟩, 2, 0⟩]
def hr6 : List ND := [⟨1, ⟨#[112]⟩, 0, 0⟩, ⟨1, ⟨#[113]⟩, 0, 0⟩, ⟨3, ⟨#[]⟩, 0, 1⟩, ⟨5, ⟨#[]⟩, 2, 0⟩, ⟨2, ⟨#[]⟩, 0, 0⟩, ⟨5, ⟨#[]⟩, 0, 4⟩]

theorem hp1 : put [] ⟨1, ⟨#[112]⟩, 0, 0⟩ = ⟨hr1, 0, 0⟩ := by kernel_rfl
theorem hp2 : put hr1 ⟨1, ⟨#[113]⟩, 0, 0⟩ = ⟨hr2, 1, 0⟩ := by kernel_rfl
theorem hp3 : put hr2 ⟨3, ⟨#[]⟩, 0, 1⟩ = ⟨hr3, 2, 0⟩ := by kernel_rfl
theorem hp4 : put hr3 ⟨5, ⟨#[]⟩, 2, 0⟩ = ⟨hr4, 3, 0⟩ := by kernel_rfl
theorem hp5 : put hr4 ⟨3, ⟨#[]⟩, 0, 1⟩ = ⟨hr4, 2, 0⟩ := by kernel_rfl
theorem hp6 : notP hr4 0 = ⟨hr6, 5, 0⟩ := by kernel_rfl
theorem hp7 : put hr6 ⟨1, ⟨#[108, 101, 116]⟩, 0, 0⟩ = ⟨hr6, 0, 32⟩ := by kernel_rfl
theorem hp8 : put hr6 ⟨4, ⟨#[]⟩, 0, 9⟩ = ⟨hr6, 0, 31⟩ := by kernel_rfl
theorem hp9 : natInts (below hr6 3) = [0, 1, 2, 3] := by
  have h3 : Reach hr6 3 3 := .refl 3
  have h2 : Reach hr6 3 2 := .left (n := ⟨5, ⟨#[]⟩, 2, 0⟩) rfl (by decide) (.refl 2)
  have h0 : Reach hr6 3 0 := .right (n := ⟨5, ⟨#[]⟩, 2, 0⟩) rfl (by decide) (.refl 0)
  have h1 : Reach hr6 3 1 := h2.trans (.right (n := ⟨3, ⟨#[]⟩, 0, 1⟩) rfl (by decide) (.refl 1))
  have : below hr6 3 = [0, 1, 2, 3] := by
    unfold below
    exact List.filter_eq_self.2 fun j hj => by
      have : j < 4 := by simpa using hj
      have hr : Reach hr6 3 j := by
        match j, this with
        | 0, _ => exact h0
        | 1, _ => exact h1
        | 2, _ => exact h2
        | 3, _ => exact h3
      simp [hr]
  rw [this]; rfl

theorem kept_below {w w' : World} {ow' : Own} (h : Kept 1 (owC w) w ow' w') : Below w.heap.size w w' := h.below (Nat.le_refl _) (by intro b hb; simp [owC, hb])

set_option maxRecDepth 100000 in
set_option maxHeartbeats 1000000 in
theorem heads03_any (w : World) : Calls Try.prog 22 #[] w fun e w' => e = .returned (.bool true) ∧ Below w.heap.size w w' := by
  have l1 : (⟨#[112]⟩ : ByteArray).size ≤ maxLen := by decide
  have l2 : (⟨#[113]⟩ : ByteArray).size ≤ maxLen := by decide
  have l3 : (⟨#[108, 101, 116]⟩ : ByteArray).size ≤ maxLen := by decide
  go_enter Try.func22, Try.ntmps22
  go_wp2_with fail
  refine (new_any 1 (owC w) w).mono ?_
  rintro e w0 ⟨t, ow0, rfl, ht0, hk0, _⟩
  go_wp2_with fail
  have A1 := atom_any 1 _ _ _ _ ht0 ⟨#[112]⟩ l1
  rw [hp1] at A1
  refine A1.mono ?_
  clear A1 l1
  rintro e w1 ⟨rfl, ow1, hk1, ht1⟩
  have hk1 := hk0.trans hk1
  clear hk0 ht0
  go_wp2_with fail
  have A2 := atom_any 1 _ _ _ _ ht1 ⟨#[113]⟩ l2
  rw [hp2] at A2
  refine A2.mono ?_
  clear A2 l2
  rintro e w2 ⟨rfl, ow2, hk2, ht2⟩
  have hk2 := hk1.trans hk2
  clear hk1 ht1
  go_wp2_with fail
  have A3 := and_any 1 _ _ _ _ ht2 0 1
  rw [hp3] at A3
  refine A3.mono ?_
  clear A3
  rintro e w3 ⟨rfl, ow3, hk3, ht3⟩
  have hk3 := hk2.trans hk3
  clear hk2 ht2
  go_wp2_with fail
  have A4 := imp_any 1 _ _ _ _ ht3 2 0
  rw [hp4] at A4
  refine A4.mono ?_
  clear A4
  rintro e w4 ⟨rfl, ow4, hk4, ht4⟩
  have hk4 := hk3.trans hk4
  clear hk3 ht3
  go_wp2_with fail
  have A5 := and_any 1 _ _ _ _ ht4 0 1
  rw [hp5] at A5
  refine A5.mono ?_
  clear A5
  rintro e w5 ⟨rfl, ow5, hk5, ht5⟩
  have hk5 := hk4.trans hk5
  clear hk4 ht4
  go_wp2_with fail
  have A6 := not_any 1 _ _ _ _ ht5 0
  rw [hp6] at A6
  refine A6.mono ?_
  clear A6
  rintro e w6 ⟨rfl, ow6, hk6, ht6⟩
  have hk6 := hk5.trans hk6
  clear hk5 ht5
  go_wp2_with fail
  have A7 := atom_any 1 _ _ _ _ ht6 ⟨#[108, 101, 116]⟩ l3
  rw [hp7] at A7
  refine A7.mono ?_
  clear A7 l3
  rintro e w7 ⟨rfl, ow7, hk7, ht7⟩
  have hk7 := hk6.trans hk7
  clear hk6 ht6
  go_wp2_with fail
  have A8 := or_any 1 _ _ _ _ ht7 0 9
  rw [hp8] at A8
  refine A8.mono ?_
  clear A8
  rintro e w8 ⟨rfl, ow8, hk8, ht8⟩
  have hb8 := kept_below (hk7.trans hk8)
  clear hk7 ht7 hk8
  go_wp2_with fail
  refine (below_yes 1 _ _ _ _ ht8 3 (by decide)).mono ?_
  rintro e w9 ⟨v', rfl, hown9, hb9⟩
  rw [hp9] at hown9
  have ht9 := ht8.below hb9
  have hb9' := hb8.trans (hb9.mono hb8.size)
  have h4 : (below hr6 3).length = 4 := by have := congrArg List.length hp9; simpa [natInts] using this
  rw [h4] at hown9
  clear ht8 hb8 hb9 h4
  have L9 := Lib.hid (len_any 1 _ _ _ _ ht9)
  have HO9 := Lib.hid hown9
  have hB9 := Lib.hid hb9'
  obtain ⟨a, c, rfl⟩ := own_slice hown9
  clear ht9 hown9 hb9'
  go_wp2_with (first
    | (go_at_call 41; refine (L9.out).mono ?_; rintro e w' ⟨rfl, rfl⟩)
    | (go_at_call 77; refine (refInts_any _ _ _ 4 4 [0, 1, 2, 3] [0, 1, 2, 3] (by decide) ((rd_own HO9.out).below (below_alloc _ _)) (rd_lit _ _ _ rfl rfl)).mono ?_; rintro e w10 ⟨rfl, hb10⟩))
  go_ret
  exact ⟨by simp, hB9.out.trans ((below_trans (below_alloc _ _) hb10).mono hB9.out.size)⟩

end Go.Dk
