/- slices.Clone, Sort, Reverse, Compare at []int; Less. -/
import Derived.Test.YtmlohibhoibgkaaR
import Derived.Test.YtmlohibhoibgkaaB
import Derived.Test.YtmlohibhoibgkaaD
import Derived.Test.YtmlohibhoibgkaaPu
import Derived.Outline
import Derived.IntWalk
import Derived.BigQuiet
import Derived.Deep.QuietTactic
namespace Go.Dk
open Go.RowKit Go.Maps Go.MapKept
open Go.Proofs hiding intOf







/-- Written down falling, in memory of its own. -/
def FallPost (w : World) (n : Nat) (zs : List Int) (e : Ending) (w' : World) : Prop := ∃ v', e = .returned v' ∧ w'.ownsRow w.heap.size 3 1 v' n (ints (fall zs)) ∧ Below w.heap.size w w'



theorem cmpL_take_step {xs ys : List Int} {k : Nat} {x y : Int} (hx : xs[k]? = some x) (hy : ys[k]? = some y) (h : xs.take k = ys.take k) : cmpL xs ys = if x < y then -1 else if y < x then 1 else cmpL (xs.drop (k + 1)) (ys.drop (k + 1)) := by
  induction k generalizing xs ys with
  | zero =>
    cases xs with
    | nil => simp at hx
    | cons a t => cases ys with
      | nil => simp at hy
      | cons b s => simp at hx hy; subst hx hy; simp [cmpL]
  | succ k ih =>
    cases xs with
    | nil => simp at hx
    | cons a t => cases ys with
      | nil => simp at hy
      | cons b s =>
        simp only [List.take_succ_cons, List.cons.injEq] at h
        obtain ⟨rfl, h⟩ := h
        simp only [cmpL, Int.lt_irrefl, if_false, List.drop_succ_cons]
        exact ih (by simpa using hx) (by simpa using hy) h

theorem cmpL_longer {xs ys : List Int} {k : Nat} (h : xs.take k = ys.take k) (h1 : ys.length = k) (h2 : k < xs.length) : cmpL xs ys = 1 := by
  induction k generalizing xs ys with
  | zero =>
    have : ys = [] := List.eq_nil_of_length_eq_zero h1
    subst this
    cases xs with
    | nil => simp at h2
    | cons a t => rfl
  | succ k ih =>
    cases xs with
    | nil => simp at h2
    | cons a t => cases ys with
      | nil => simp at h1
      | cons b s =>
        simp only [List.take_succ_cons, List.cons.injEq] at h
        obtain ⟨rfl, h⟩ := h
        simp only [cmpL, Int.lt_irrefl, if_false]
        exact ih h (by simpa using h1) (by simpa using h2)
theorem cmpL_shorter {xs ys : List Int} {k : Nat} (h : xs.take k = ys.take k) (h1 : xs.length = k) (h2 : k < ys.length) : cmpL xs ys = -1 := by
  induction k generalizing xs ys with
  | zero =>
    have : xs = [] := List.eq_nil_of_length_eq_zero h1
    subst this
    cases ys with
    | nil => simp at h2
    | cons a t => rfl
  | succ k ih =>
    cases ys with
    | nil => simp at h2
    | cons a t => cases xs with
      | nil => simp at h1
      | cons b s =>
        simp only [List.take_succ_cons, List.cons.injEq] at h
        obtain ⟨rfl, h⟩ := h
        simp only [cmpL, Int.lt_irrefl, if_false]
        exact ih h (by simpa using h1) (by simpa using h2)
theorem cmpL_self (xs : List Int) : cmpL xs xs = 0 := by
  induction xs with
  | nil => rfl
  | cons x xs ih => simp [cmpL, ih]





/-! ### alike -/
def cntTo (x : Int) (xs ys : List Int) (k : Nat) : Int := ((xs.take k).count x : Int) - ((ys.take k).count x : Int)
theorem cntTo_step {x : Int} {xs ys : List Int} {k : Nat} {y z : Int} (hy : xs[k]? = some y) (hz : ys[k]? = some z) : cntTo x xs ys (k + 1) = cntTo x xs ys k + (if y = x then 1 else 0) - (if z = x then 1 else 0) := by
  unfold cntTo
  rw [List.take_add_one, List.take_add_one, hy, hz]
  simp only [Option.toList_some, List.count_append, List.count_singleton]
  by_cases h1 : y = x <;> by_cases h2 : z = x <;> simp [h1, h2] <;> omega
theorem cntTo_bd (x : Int) (xs ys : List Int) (k : Nat) : -(k : Int) ≤ cntTo x xs ys k ∧ cntTo x xs ys k ≤ k := by
  unfold cntTo
  have h1 := List.count_le_length (a := x) (l := xs.take k)
  have h2 := List.count_le_length (a := x) (l := ys.take k)
  have h3 : (xs.take k).length ≤ k := List.length_take_le _ _
  have h4 : (ys.take k).length ≤ k := List.length_take_le _ _
  omega

theorem of_beq {x y : Int} (h : (x == y) = true) : x = y := by simpa using h
theorem ne_beq {x y : Int} (h : (x == y) = false) : ¬ x = y := by simpa using h
theorem ret_slot {a b : Int} (h : a = b) : Value.int .i64 a = Value.int .i64 b := by rw [h]



end Go.Dk

