/- The document's counts of layer 6: sum, two. -/
import Derived.Test.YtfldpjacgeoegaaGreatO
import Derived.Test.YtfldpjacgeoegaaGreatYs
import Derived.Test.YtfldpjacgeoegaaGreatYq
namespace Go.Dk
open Go.RowKit Go.Maps Go.MapKept
open Go.Proofs hiding intOf

theorem sum06_any (a b : Int) (ha : 0 ≤ a ∧ a ≤ MC) (hb : 0 ≤ b ∧ b ≤ MC) (w : World) : Calls Tryz.prog 38 #[.int .i64 a, .int .i64 b] w fun e w' => e = .returned (.int .i64 (capI (a + b))) ∧ w = w' := by
  unfold MC at ha hb
  by_cases h : 1099511627776 < a + b
  · have hg : decide (1099511627776 < a + b) = true := by simpa using h
    have HV : Hid (capI (a + b) = 1099511627776) := by unfold Hid capI MC; rw [if_pos (by omega)]
    rw [HV.out]
    clear h
    go_enter Tryz.func38, Tryz.ntmps38
    go_wp2_with fail
    go_ret
    exact ⟨rfl, rfl⟩
  · have hg : decide (1099511627776 < a + b) = false := by simpa using h
    have HV : Hid (capI (a + b) = a + b) := by unfold Hid capI MC; rw [if_neg (by omega)]
    rw [HV.out]
    clear h
    go_enter Tryz.func38, Tryz.ntmps38
    go_wp2_with fail
    go_ret
    exact ⟨rfl, rfl⟩

def twoB (n : ND) : Bool := decide (n.kind ≠ 1) && decide (n.kind ≠ 2)
theorem two06_any (w : World) (kd l r : Int) (nm : ByteArray) : Calls Tryz.prog 37 #[.agg #[.int .i64 kd, .string nm, .int .i64 l, .int .i64 r]] w fun e w' => e = .returned (.bool (twoB ⟨kd, nm, l, r⟩)) ∧ Below w.heap.size w w' := by
  by_cases h1 : kd = 1
  · subst h1
    go_enter Tryz.func37, Tryz.ntmps37
    go_wp2_with fail
    go_ret
    exact ⟨rfl, below_alloc _ _⟩
  · have g1 : (kd != 1) = true := by simpa using h1
    by_cases h2 : kd = 2
    · subst h2
      clear h1
      go_enter Tryz.func37, Tryz.ntmps37
      go_wp2_with fail
      go_ret
      exact ⟨rfl, below_alloc _ _⟩
    · have g2 : (kd != 2) = true := by simpa using h2
      have HV : Hid (twoB ⟨kd, nm, l, r⟩ = true) := by unfold Hid twoB; simp [h1, h2]
      rw [HV.out]
      clear h1 h2
      go_enter Tryz.func37, Tryz.ntmps37
      go_wp2_with fail
      go_ret
      exact ⟨rfl, below_alloc _ _⟩

theorem two06_no (w : World) (kd l r : Int) (nm : ByteArray) (h : kd = 1 ∨ kd = 2) : Calls Tryz.prog 37 #[.agg #[.int .i64 kd, .string nm, .int .i64 l, .int .i64 r]] w fun e w' => e = .returned (.bool false) ∧ Below w.heap.size w w' := by
  have := two06_any w kd l r nm
  rw [show twoB ⟨kd, nm, l, r⟩ = false by unfold twoB; simp; omega] at this
  exact this
theorem two06_yes (w : World) (kd l r : Int) (nm : ByteArray) (h : kd ≠ 1 ∧ kd ≠ 2) : Calls Tryz.prog 37 #[.agg #[.int .i64 kd, .string nm, .int .i64 l, .int .i64 r]] w fun e w' => e = .returned (.bool true) ∧ Below w.heap.size w w' := by
  have := two06_any w kd l r nm
  rw [show twoB ⟨kd, nm, l, r⟩ = true by unfold twoB; simp [h.1, h.2]] at this
  exact this

end Go.Dk

