/- slices.Clone, Sort, Reverse, Compare at []int; Less. -/
import Derived.Test.YtfldpjacgeoegaaR
import Derived.Test.YtfldpjacgeoegaaB
import Derived.Test.YtfldpjacgeoegaaD
import Derived.Test.YtfldpjacgeoegaaPu
import Derived.Outline
import Derived.IntWalk
import Derived.BigQuiet
import Derived.Deep.QuietTactic
namespace Go.Dk
open Go.RowKit Go.Maps Go.MapKept
open Go.Proofs hiding intOf

theorem cloneInts_any (w : World) (v : Value) (n : Nat) (zs : List Int) (h : Rd w v n 1 (ints zs)) (hl : n * 8 ≤ 140737488355328) :
    Calls Try.prog 99 #[v] w fun e w' => ∃ v', e = .returned v' ∧ w'.ownsRow w.heap.size 3 1 v' n (ints zs) ∧ Below w.heap.size w w' := by
  have hn : zs.length = n := by have := h.len; simpa [ints] using this
  obtain ⟨⟨a, c, rfl, h1, h2⟩, _⟩ := h
  cases a with
  | none =>
    obtain ⟨rfl, rfl⟩ := h1 rfl
    refine (Try.slices_Clone_int_nil 0 0 w).mono ?_
    rintro e w' ⟨rfl, rfl⟩
    have : zs = [] := List.eq_nil_of_length_eq_zero hn
    subst this
    exact ⟨_, rfl, World.ownsRow_nil _ _ _ _, Below.refl _ _⟩
  | some ad =>
    by_cases h0 : n = 0
    · subst h0
      have : zs = [] := List.eq_nil_of_length_eq_zero hn
      subst this
      refine (Try.slices_Clone_int_zero ad c w).mono ?_
      rintro e w' ⟨v', rfl, h3, _, h4⟩
      exact ⟨v', rfl, h3, h4⟩
    · obtain ⟨b, o, s⟩ := ad
      obtain ⟨h3, h4⟩ := h2 _ rfl
      have := h3 h0
      simp only at this
      subst this
      refine (Try.slices_Clone_int b o n c zs w (by omega) hl (fun j hj => ?_)).mono ?_
      · refine h4 j _ ?_
        simp [ints, List.getElem?_eq_getElem hj]
      · rintro e w' ⟨v', rfl, h5, _, h6⟩
        refine ⟨v', rfl, ?_, h6⟩
        rw [List.take_of_length_le (by omega)] at h5
        exact h5

theorem reverseInts_own (w : World) (base n : Nat) (v : Value) (zs : List Int) (h : w.ownsRow base 3 1 v n (ints zs)) (hl : n < 4611686018427387904) :
    Calls Try.prog 100 #[v] w fun e w' => e = .returned (.tuple #[]) ∧ w'.ownsRow base 3 1 v n (ints zs.reverse) ∧ w.grownBy w' v.ownBlock := by
  have hn : zs.length = n := by have := h.1; simpa [ints] using this
  rcases h.2 with ⟨rfl, h0⟩ | ⟨g, cap, cur, rfl, hbg, hg, h1, h2, h3, h4⟩
  · subst h0
    have : zs = [] := List.eq_nil_of_length_eq_zero hn
    subst this
    refine (Try.slices_Reverse_int_empty none 0 w).mono ?_
    rintro e w' ⟨rfl, rfl⟩
    exact ⟨rfl, by simpa using h, ⟨rfl, rfl, rfl, Nat.le_refl _, fun _ _ _ => rfl⟩⟩
  · subst hn
    refine (Try.slices_Reverse_int g 0 cap zs w (holds_of_blockI hg (by simpa [ints] using h4)) (by omega)).mono ?_
    rintro e w' ⟨rfl, m, rfl⟩
    have e0 : ∀ W : World, W = Go.Sort.grow W #[] := fun W => by simp [Go.Sort.grow]
    rw [e0 (Go.Sort.putRow _ _ _ _ _)]
    refine ⟨rfl, ?_, grownBy_sortedI _⟩
    exact ownsRow_sortedI (List.length_reverse) hbg hg h1 h2 h3

theorem compareInt_lt {x y : Int} (h : x < y) (w : World) : Calls Try.prog 133 #[.int .i64 x, .int .i64 y] w fun e w' => e = .returned (.int .i64 (-1)) ∧ w = w' :=
  (Try.cmp_Compare_int x y w).mono fun e w' ⟨he, hw⟩ => ⟨by rw [he]; simp [Lib.compareInt, h], hw.symm⟩
theorem compareInt_gt {x y : Int} (h : y < x) (w : World) : Calls Try.prog 133 #[.int .i64 x, .int .i64 y] w fun e w' => e = .returned (.int .i64 1) ∧ w = w' := by
  have h2 : ¬ x < y := by omega
  refine (Try.cmp_Compare_int x y w).mono fun e w' ⟨he, hw⟩ => ⟨?_, hw.symm⟩
  rw [he]; simp [Lib.compareInt, h, h2]
theorem compareInt_eq (x : Int) (w : World) : Calls Try.prog 133 #[.int .i64 x, .int .i64 x] w fun e w' => e = .returned (.int .i64 0) ∧ w = w' :=
  (Try.cmp_Compare_int x x w).mono fun e w' ⟨he, hw⟩ => ⟨by rw [he]; simp [Lib.compareInt], hw.symm⟩

/-- Written down falling, in memory of its own. -/
def FallPost (w : World) (n : Nat) (zs : List Int) (e : Ending) (w' : World) : Prop := ∃ v', e = .returned v' ∧ w'.ownsRow w.heap.size 3 1 v' n (ints (fall zs)) ∧ Below w.heap.size w w'

set_option maxRecDepth 100000 in
theorem sorted_any (w : World) (v : Value) (n : Nat) (zs : List Int) (h : Rd w v n 1 (ints zs)) (hl : n * 8 ≤ 140737488355328) :
    Calls Try.prog 98 #[v] w (FallPost w n zs) := by
  have H := Lib.hid h
  obtain ⟨a, c, rfl⟩ := h.slice
  clear h
  go_enter Try.func98, Try.ntmps98
  go_wp2_with (first
    | (go_at_call 99; refine (cloneInts_any _ _ n zs H.out hl).mono ?_; rintro e w1 ⟨v1, rfl, hown1, hb1⟩; have HO1 := Lib.hid hown1; have HB1 := Lib.hid hb1; obtain ⟨a1, c1, hv⟩ := own_slice hown1; subst hv; clear hown1 hb1)
    | (go_at_call 84; refine (sortInts_own _ w.heap.size n _ zs HB1.out.size HO1.out (by omega)).mono ?_; rintro e w2 ⟨rfl, hown2, hg2⟩; have HO2 := Lib.hid hown2; have HB2 := Lib.hid (HB1.out.grown hg2 HB1.out.size (fun k hk => (HO1.out.lt k hk).1)); clear hown2 hg2)
    | (go_at_call 100; refine (reverseInts_own _ w.heap.size n _ _ HO2.out (by omega)).mono ?_; rintro e w3 ⟨rfl, hown3, hg3⟩; have HO3 := Lib.hid hown3; have HB3 := Lib.hid (HB2.out.grown hg3 HB2.out.size (fun k hk => (HO2.out.lt k hk).1)); clear hown3 hg3))
  go_ret
  exact ⟨_, rfl, HO3.out, HB3.out⟩

theorem cmpL_take_step {xs ys : List Int} {k : Nat} {x y : Int} (hx : xs[k]? = some x) (hy : ys[k]? = some y) (h : xs.take k = ys.take k) : cmpL xs ys = if x < y then -1 else if y < x then 1 else cmpL (xs.drop (k + 1)) (ys.drop (k + 1)) := by
  induction k generalizing xs ys with
  | zero =>
    cases xs with
    | nil => simp at hx
    | cons a t => cases ys with
      | nil => simp at hy
      | cons b s => simp at hx hy; subst hx hy; simp [cmpL]
  | succ k ih =>
    cases xs with
    | nil => simp at hx
    | cons a t => cases ys with
      | nil => simp at hy
      | cons b s =>
        simp only [List.take_succ_cons, List.cons.injEq] at h
        obtain ⟨rfl, h⟩ := h
        simp only [cmpL, Int.lt_irrefl, if_false, List.drop_succ_cons]
        exact ih (by simpa using hx) (by simpa using hy) h

theorem cmpL_longer {xs ys : List Int} {k : Nat} (h : xs.take k = ys.take k) (h1 : ys.length = k) (h2 : k < xs.length) : cmpL xs ys = 1 := by
  induction k generalizing xs ys with
  | zero =>
    have : ys = [] := List.eq_nil_of_length_eq_zero h1
    subst this
    cases xs with
    | nil => simp at h2
    | cons a t => rfl
  | succ k ih =>
    cases xs with
    | nil => simp at h2
    | cons a t => cases ys with
      | nil => simp at h1
      | cons b s =>
        simp only [List.take_succ_cons, List.cons.injEq] at h
        obtain ⟨rfl, h⟩ := h
        simp only [cmpL, Int.lt_irrefl, if_false]
        exact ih h (by simpa using h1) (by simpa using h2)
theorem cmpL_shorter {xs ys : List Int} {k : Nat} (h : xs.take k = ys.take k) (h1 : xs.length = k) (h2 : k < ys.length) : cmpL xs ys = -1 := by
  induction k generalizing xs ys with
  | zero =>
    have : xs = [] := List.eq_nil_of_length_eq_zero h1
    subst this
    cases ys with
    | nil => simp at h2
    | cons a t => rfl
  | succ k ih =>
    cases ys with
    | nil => simp at h2
    | cons a t => cases xs with
      | nil => simp at h1
      | cons b s =>
        simp only [List.take_succ_cons, List.cons.injEq] at h
        obtain ⟨rfl, h⟩ := h
        simp only [cmpL, Int.lt_irrefl, if_false]
        exact ih h (by simpa using h1) (by simpa using h2)
theorem cmpL_self (xs : List Int) : cmpL xs xs = 0 := by
  induction xs with
  | nil => rfl
  | cons x xs ih => simp [cmpL, ih]

set_option maxRecDepth 100000 in
set_option maxHeartbeats 800000 in
theorem compareInts_any (w : World) (v u : Value) (n m : Nat) (xs ys : List Int) (hn : n ≤ maxLen) (hm : m ≤ maxLen) (hx : Rd w v n 1 (ints xs)) (hy : Rd w u m 1 (ints ys)) :
    Calls Try.prog 101 #[v, u] w fun e w' => e = .returned (.int .i64 (cmpL xs ys)) ∧ Below w.heap.size w w' := by
  have hnx := ints_len hx
  have hmy := ints_len hy
  have HX := Lib.hid hx; have HY := Lib.hid hy
  obtain ⟨a, c, rfl⟩ := hx.slice
  obtain ⟨a', c', rfl⟩ := hy.slice
  clear hx hy
  unfold maxLen at hn hm
  go_enter Try.func101, Try.ntmps101
  go_wp2
  go_loopw [11] (fun i W => ∃ k : Nat, k ≤ n ∧ k ≤ m ∧ i = .int .i64 k ∧ xs.take k = ys.take k ∧ Below w.heap.size w W) (fun i _ => n - (intOf i).toNat)
  case atStart => exact ⟨0, Nat.zero_le _, Nat.zero_le _, rfl, rfl, Below.refl _ _⟩
  case round =>
    obtain ⟨k, hk, hk2, rfl, ht, hb⟩ := hrel
    have HT := Lib.hid ht
    have HB := Lib.hid hb
    clear ht hb
    by_cases hlt : k < n
    · obtain ⟨b, o, c1, x, he, hc1, hxk⟩ := ints_at (HX.out.below HB.out) hlt
      cases he
      have HXK := Lib.hid hxk
      clear hxk
      by_cases hlt2 : k < m
      · obtain ⟨b', o', c2, y, he, hc2, hyk⟩ := ints_at (HY.out.below HB.out) hlt2
        cases he
        have HYK := Lib.hid hyk
        clear hyk
        have HC := Lib.hid (cmpL_take_step HXK.out HYK.out HT.out)
        by_cases hl1 : x < y
        · have HL1 : Hid (x < y) := hl1
          go_wp2_with (go_at_call 133; refine (compareInt_lt hl1 _).mono ?_; rintro e w' ⟨rfl, rfl⟩)
          go_ret
          exact ⟨ret_int (by rw [HC.out, if_pos HL1.out]), HB.out⟩
        · by_cases hl2 : y < x
          · have HL2 : Hid (y < x) := hl2
            go_wp2_with (go_at_call 133; refine (compareInt_gt hl2 _).mono ?_; rintro e w' ⟨rfl, rfl⟩)
            go_ret
            exact ⟨ret_int (by rw [HC.out, if_neg (show ¬ x < y by have := HL2.out; omega), if_pos HL2.out]), HB.out⟩
          · obtain rfl : x = y := by omega
            clear HC hl1 hl2
            go_wp2_with (go_at_call 133; refine (compareInt_eq _ _).mono ?_; rintro e w' ⟨rfl, rfl⟩)
            exact ⟨⟨k + 1, by omega, by omega, by go_num, take_eq_step HT.out HXK.out HYK.out, HB.out⟩, by simp [intOf]; omega⟩
      · obtain rfl : k = m := by omega
        go_wp2
        go_ret
        exact ⟨ret_int (by rw [cmpL_longer HT.out hmy (by omega)]), HB.out⟩
    · obtain rfl : k = n := by omega
      by_cases hlt2 : k < m
      · go_wp2
        go_ret
        exact ⟨ret_int (by rw [cmpL_shorter HT.out hnx (by omega)]), HB.out⟩
      · have hxy : xs = ys := by
          have := HT.out
          rwa [List.take_of_length_le (by omega), List.take_of_length_le (by omega)] at this
        have HXY := Lib.hid hxy
        clear hxy
        go_wp2
        go_ret
        exact ⟨ret_int (by rw [HXY.out, cmpL_self]), HB.out⟩

set_option maxRecDepth 100000 in
set_option maxHeartbeats 800000 in
theorem less_any (w : World) (v u : Value) (n m : Nat) (xs ys : List Int) (hn : n * 8 ≤ 140737488355328) (hm : m * 8 ≤ 140737488355328) (hx : Rd w v n 1 (ints xs)) (hy : Rd w u m 1 (ints ys)) :
    Calls Try.prog 56 #[v, u] w fun e w' => e = .returned (.bool (lessL xs ys)) ∧ Below w.heap.size w w' := by
  have HX := Lib.hid hx; have HY := Lib.hid hy
  obtain ⟨a, c, rfl⟩ := hx.slice
  obtain ⟨a', c', rfl⟩ := hy.slice
  clear hx hy
  have hmf : ∀ (fn : Fn) (first cap : Array Value) (w : World), (Instr.makeFunc fn first cap).run Try.prog w = .ok (.func fn first cap) w := fun _ _ _ _ => rfl
  go_enter Try.func56, Try.ntmps56
  go_wp2_with fail
  refine (sorted_any _ _ n xs HX.out hn).mono ?_
  rintro e w1 ⟨v1, rfl, hown1, hb1⟩
  have HO1 := Lib.hid hown1; have HB1 := Lib.hid hb1
  obtain ⟨a1, c1, hv⟩ := own_slice hown1
  subst hv
  clear hown1 hb1
  go_wp2_with fail
  refine (sorted_any _ _ m ys (HY.out.below HB1.out) hm).mono ?_
  rintro e w2 ⟨v2, rfl, hown2, hb2⟩
  have HO2 := Lib.hid hown2; have HB2 := Lib.hid (below_trans HB1.out hb2); have HR1 := Lib.hid ((rd_own HO1.out).below hb2)
  obtain ⟨a2, c2, hv⟩ := own_slice hown2
  subst hv
  clear hown2 hb2 hmf
  go_wp2_with (go_at_call 101; refine (compareInts_any _ _ _ n m _ _ (by unfold maxLen; omega) (by unfold maxLen; omega) HR1.out (rd_own HO2.out)).mono ?_; rintro e w3 ⟨rfl, hb3⟩; have HB3 := Lib.hid (below_trans HB2.out hb3); clear hb3)
  go_ret
  exact ⟨ret_bool (cmpL_lt _ _), HB3.out⟩

/-! ### alike -/
def cntTo (x : Int) (xs ys : List Int) (k : Nat) : Int := ((xs.take k).count x : Int) - ((ys.take k).count x : Int)
theorem cntTo_step {x : Int} {xs ys : List Int} {k : Nat} {y z : Int} (hy : xs[k]? = some y) (hz : ys[k]? = some z) : cntTo x xs ys (k + 1) = cntTo x xs ys k + (if y = x then 1 else 0) - (if z = x then 1 else 0) := by
  unfold cntTo
  rw [List.take_add_one, List.take_add_one, hy, hz]
  simp only [Option.toList_some, List.count_append, List.count_singleton]
  by_cases h1 : y = x <;> by_cases h2 : z = x <;> simp [h1, h2] <;> omega
theorem cntTo_bd (x : Int) (xs ys : List Int) (k : Nat) : -(k : Int) ≤ cntTo x xs ys k ∧ cntTo x xs ys k ≤ k := by
  unfold cntTo
  have h1 := List.count_le_length (a := x) (l := xs.take k)
  have h2 := List.count_le_length (a := x) (l := ys.take k)
  have h3 : (xs.take k).length ≤ k := List.length_take_le _ _
  have h4 : (ys.take k).length ≤ k := List.length_take_le _ _
  omega

theorem of_beq {x y : Int} (h : (x == y) = true) : x = y := by simpa using h
theorem ne_beq {x y : Int} (h : (x == y) = false) : ¬ x = y := by simpa using h
theorem ret_slot {a b : Int} (h : a = b) : Value.int .i64 a = Value.int .i64 b := by rw [h]



end Go.Dk

