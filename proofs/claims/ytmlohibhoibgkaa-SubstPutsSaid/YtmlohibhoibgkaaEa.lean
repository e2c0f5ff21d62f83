/- Put of the document's tables. -/
import Derived.Test.YtmlohibhoibgkaaE
import Derived.Deep.DeepCutAuto
import Derived.Deep.CutBlock
import Derived.Deep.RegionLaw
namespace Go.Dk
open Go.RowKit Go.Maps Go.MapKept
open Go.Proofs hiding intOf

set_option maxRecDepth 100000 in
set_option maxHeartbeats 800000 in
theorem refPut_err (k : Nat) (ow : Own) (w : World) (t : Value) (rows : List ND) (h : RTab k ow w t rows) (kd l r : Int) (nm : ByteArray) (hn : nm.size ≤ maxLen) (hf : fits rows.length ⟨kd, nm, l, r⟩ ≠ 0) :
    Calls Try.prog 54 #[t, .agg #[.int .i64 kd, .string nm, .int .i64 l, .int .i64 r]] w fun e w' => e = .returned (.tuple #[.int .i64 0, .int .i64 (fits rows.length ⟨kd, nm, l, r⟩)]) ∧ Below w.heap.size w w' := by
  have H : Hid (∀ o, RTab k ow (w.alloc o) t rows) := fun o => h.below (below_alloc _ _)
  have HF := Lib.hid hf
  obtain ⟨rb, v, rfl, ht⟩ := h
  clear ht hf
  by_cases h1 : kd = 1
  · subst h1
    by_cases h2 : l = 0
    · subst h2
      by_cases h3 : r = 0
      · subst h3
        cases h4 : word nm with
        | true => exact absurd (by simp [fits, h4]) HF.out
        | false =>
          have HE : Hid (fits rows.length ⟨1, nm, 0, 0⟩ = 32) := by simp [Hid, fits, h4]
          go_enter Try.func54, Try.ntmps54
          go_wp2_with (go_at_call 50; refine (refWord_any _ _ hn).mono ?_; rintro e w2 ⟨rfl, hb2⟩)
          go_ret2
          rw [HE.out]
          exact ⟨rfl, below_trans (below_alloc _ _) hb2⟩
      · have HE : Hid (fits rows.length ⟨1, nm, 0, r⟩ = 31) := by simp [Hid, fits, h3]
        have hb : (r != 0) = true := by simp [h3]
        go_enter Try.func54, Try.ntmps54
        go_wp2
        go_ret2
        rw [HE.out]
        exact ⟨rfl, below_alloc _ _⟩
    · have HE : Hid (fits rows.length ⟨1, nm, l, r⟩ = 31) := by simp [Hid, fits, h2]
      have hb : (l != 0) = true := by simp [h2]
      go_enter Try.func54, Try.ntmps54
      go_wp2
      go_ret2
      rw [HE.out]
      exact ⟨rfl, below_alloc _ _⟩
  · by_cases h2 : kd = 2
    · subst h2
      have HE : Hid (fits rows.length ⟨2, nm, l, r⟩ = 31) := by
        have := HF.out
        unfold fits at this ⊢
        rw [if_neg (by simp), if_pos rfl] at this ⊢
        split
        · rfl
        · rename_i h; rw [if_neg h] at this; exact absurd rfl this
      have hd : ¬ (nm.toList = [] ∧ l = 0 ∧ r = 0) := by
        rintro ⟨a, b, c⟩
        have := HE.out
        simp [fits, bytes_nil.1 a, b, c] at this
      cases h4 : nm.toList.isEmpty with
      | false =>
        have h4' : ¬ nm.toList = [] := by intro h; rw [h] at h4; cases h4
        clear hd
        go_enter Try.func54, Try.ntmps54
        go_wp2
        go_ret2
        rw [HE.out]
        exact ⟨rfl, below_alloc _ _⟩
      | true =>
        have h4' : nm.toList = [] := by simpa using h4
        by_cases h5 : l = 0
        · have h6 : (r != 0) = true := by simp; intro h; exact hd ⟨h4', h5, h⟩
          subst h5
          clear hd
          go_enter Try.func54, Try.ntmps54
          go_wp2
          go_ret2
          rw [HE.out]
          exact ⟨rfl, below_alloc _ _⟩
        · have h6 : (l != 0) = true := by simp [h5]
          clear hd
          go_enter Try.func54, Try.ntmps54
          go_wp2
          go_ret2
          rw [HE.out]
          exact ⟨rfl, below_alloc _ _⟩
    · by_cases h3 : kd = 3 ∨ kd = 4 ∨ kd = 5
      · have hm : fits rows.length ⟨kd, nm, l, r⟩ = if nm.size ≠ 0 ∨ hasB rows.length l = false ∨ hasB rows.length r = false then 31 else 0 := by
          unfold fits; rw [if_neg h1, if_neg h2, if_pos h3]
        have HE : Hid (fits rows.length ⟨kd, nm, l, r⟩ = 31) := by
          have := HF.out
          rw [hm] at this
          rw [Hid, hm]
          split
          · rfl
          · rename_i h; rw [if_neg h] at this; exact absurd rfl this
        have hd : ¬ (nm.toList = [] ∧ hasB rows.length l = true ∧ hasB rows.length r = true) := by
          rintro ⟨a, b, c⟩
          have := HE.out
          rw [hm] at this
          simp [bytes_nil.1 a, b, c] at this
        clear hm
        cases h4 : nm.toList.isEmpty with
        | false =>
          have h4' : ¬ nm.toList = [] := by intro h; rw [h] at h4; cases h4
          clear hd
          rcases h3 with rfl | rfl | rfl
          all_goals
            go_enter Try.func54, Try.ntmps54
            go_wp2
            go_ret2
            rw [HE.out]
            exact ⟨rfl, below_alloc _ _⟩
        | true =>
          have h4' : nm.toList = [] := by simpa using h4
          cases h5 : hasB rows.length l with
          | false =>
            clear hd h4'
            rcases h3 with rfl | rfl | rfl
            all_goals
              go_enter Try.func54, Try.ntmps54
              go_wp2_with (go_at_call 8; refine (refHas_any k ow _ _ rows (H.out _) _).mono ?_; rintro e w' ⟨rfl, rfl⟩)
              go_ret2
              rw [HE.out]
              exact ⟨rfl, below_alloc _ _⟩
          | true =>
            have h6 : hasB rows.length r = false := by
              cases h : hasB rows.length r with
              | false => rfl
              | true => exact absurd ⟨h4', h5, h⟩ hd
            clear hd h4'
            rcases h3 with rfl | rfl | rfl
            all_goals
              go_enter Try.func54, Try.ntmps54
              go_wp2_with (go_at_call 8; refine (refHas_any k ow _ _ rows (H.out _) _).mono ?_; rintro e w' ⟨rfl, rfl⟩)
              go_ret2
              rw [HE.out]
              exact ⟨rfl, below_alloc _ _⟩
      · have ha : ¬ kd = 3 := fun e => h3 (.inl e)
        have hb : ¬ kd = 4 := fun e => h3 (.inr (.inl e))
        have hc : ¬ kd = 5 := fun e => h3 (.inr (.inr e))
        have HM : Hid (fits rows.length ⟨kd, nm, l, r⟩ = 31) := by unfold fits; rw [Hid, if_neg h1, if_neg h2, if_neg h3]
        go_enter Try.func54, Try.ntmps54
        go_wp2
        go_ret2
        rw [HM.out]
        exact ⟨rfl, below_alloc _ _⟩


end Go.Dk

