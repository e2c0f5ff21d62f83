/- most, single, row, and what each measure reckons of a row. -/
import Derived.Test.YtmlohibhoibgkaaYe
import Derived.Test.YtmlohibhoibgkaaPu
import Derived.Test.YtmlohibhoibgkaaZ
import Derived.Test.YtmlohibhoibgkaaL
import Derived.Test.YtmlohibhoibgkaaMa
import Derived.Test.YtmlohibhoibgkaaJ
namespace Go.Dk
open Go.RowKit Go.Maps Go.MapKept
open Go.Proofs hiding intOf

/-- Sums that end at a limit. -/
def mostL : List Int → Int → Int
  | [], n => n
  | x :: t, n => mostL t (min MC (n + x))
theorem mostL_snoc (l : List Int) (x n : Int) : mostL (l ++ [x]) n = min MC (mostL l n + x) := by
  induction l generalizing n with
  | nil => rfl
  | cons a t ih => simp only [List.cons_append, mostL, ih]
theorem mostL_bd (l : List Int) (h : ∀ x ∈ l, 0 ≤ x ∧ x ≤ MC) (n : Int) (hn : 0 ≤ n ∧ n ≤ MC) : 0 ≤ mostL l n ∧ mostL l n ≤ MC := by
  induction l generalizing n with
  | nil => exact hn
  | cons a t ih =>
    have ha := h a (by simp)
    exact ih (fun x hx => h x (by simp [hx])) _ (by unfold MC at *; omega)
theorem most3 (a b c : Int) (ha : 0 ≤ a ∧ a ≤ MC) (hb : 0 ≤ b ∧ b ≤ MC) (hc : 0 ≤ c ∧ c ≤ MC) : mostL [a, b, c] 0 = capI (a + b + c) := by
  simp only [mostL]
  unfold capI MC at *
  split <;> omega
theorem most2 (a b : Int) (ha : 0 ≤ a ∧ a ≤ MC) (hb : 0 ≤ b ∧ b ≤ MC) : mostL [a, b] 0 = capI (a + b) := by
  simp only [mostL]
  unfold capI MC at *
  split <;> omega





theorem cells4 {w : World} {b : Nat} {x0 x1 x2 x3 : Value} {t : TypeId} (h : w.heap[b]? = some (.cells #[x0, x1, x2, x3] t (0, 0))) :
    (w.cell? ⟨b, 0, none⟩ = some x0 ∧ w.cell? ⟨b, 1, none⟩ = some x1 ∧ w.cell? ⟨b, 2, none⟩ = some x2 ∧ w.cell? ⟨b, 3, none⟩ = some x3) ∧ (w.frozen? ⟨b, 0, none⟩ = false ∧ w.frozen? ⟨b, 1, none⟩ = false ∧ w.frozen? ⟨b, 2, none⟩ = false ∧ w.frozen? ⟨b, 3, none⟩ = false) ∧ b < w.heap.size :=
  ⟨⟨cell_of h rfl, cell_of h rfl, cell_of h rfl, cell_of h rfl⟩, ⟨frozen_of h, frozen_of h, frozen_of h, frozen_of h⟩, lt_of_block h⟩





/-! ### fold -/
/-- A function value that reckons a row's number of its parts'. -/
def Reckons (g : Nat) (of : ND → Int → Int → Int) : Prop :=
  ∀ (W : World) (n : ND) (l r : Int), (1 ≤ n.kind ∧ n.kind ≤ 5) → (0 ≤ l ∧ l ≤ MC) → (0 ≤ r ∧ r ≤ MC) → Calls Try.prog g #[n.val, .int .i64 l, .int .i64 r] W fun e w' => e = .returned (.int .i64 (of n l r)) ∧ Below W.heap.size W w'

/-- What is known when the rows done have been gone through. -/
def knownF (of : ND → Int → Int → Int) (rows : List ND) (done : List Nat) (x : Nat) : Option Int := if x ∈ done then some (val of rows x) else none



def intV (x : Int) : Value := .int .i64 x
theorem TM.look_int {w : World} {b : Nat} {f : Nat → Option Int} (h : TM Try.prog 3 natV intV w b f) (x : Nat) (hx : x ≤ 9223372036854775807) :
    (Instr.lookup 107 (.map (some b)) (.int .i64 (x : Int)) false).run Try.prog w = .ok (.int .i64 ((f x).getD 0)) w := by
  cases hf : f x with
  | none => exact h.look_none lawInt natV_inj Try.underlying107 (zeroInt _) (keyNat x hx) false hf
  | some v => exact h.look_some lawInt natV_inj Try.underlying107 (keyNat x hx) false hf

theorem knownF_step {of : ND → Int → Int → Int} {rows : List ND} {l : List Nat} {k x : Nat} (hx : l[k]? = some x) : upd (knownF of rows (l.take k)) x (some (val of rows x)) = knownF of rows (l.take (k + 1)) := by
  funext y
  unfold knownF
  rw [List.take_add_one, hx]
  by_cases e : y = x
  · subst e; rw [upd_same]; simp
  · rw [upd_other _ _ e]; simp [e]
theorem knownF_get {of : ND → Int → Int → Int} {rows : List ND} (hbd : ∀ i, i < rows.length → 0 ≤ val of rows i ∧ val of rows i ≤ MC) (l : List Nat) (hl : ∀ x ∈ l, x < rows.length) (x : Nat) : 0 ≤ (knownF of rows l x).getD 0 ∧ (knownF of rows l x).getD 0 ≤ MC := by
  unfold knownF
  split
  · rename_i h; exact hbd x (hl x h)
  · simp [MC]
/-- What stands ahead of a row in Below: its parts. -/
theorem below_ahead {rows : List ND} (_ok : Ok rows) {i k x y : Nat} (_hi : i < rows.length) (hx : (below rows i)[k]? = some x) (hy : y ∈ below rows i) (hlt : y < x) : y ∈ (below rows i).take k := by
  obtain ⟨j, hj⟩ := List.mem_iff_getElem?.1 hy
  have hjk : j < k := by
    apply Classical.byContradiction
    intro hn
    have hp := below_pairwise rows i
    rcases Nat.lt_or_eq_of_le (Nat.le_of_not_lt hn) with h | h
    · obtain ⟨a1, a2⟩ := List.getElem?_eq_some_iff.1 hx
      obtain ⟨b1, b2⟩ := List.getElem?_eq_some_iff.1 hj
      have := List.pairwise_iff_getElem.1 hp k j a1 b1 h
      omega
    · subst h; rw [hx] at hj; cases hj; omega
  exact List.mem_iff_getElem?.2 ⟨j, by rw [List.getElem?_take, if_pos hjk]; exact hj⟩
theorem known_val {of : ND → Int → Int → Int} {rows : List ND} (ok : Ok rows) (ho : ∀ n l r l' r', n.kind < 3 → of n l r = of n l' r') {i k x l r : Nat} {kd : Int} {nm : ByteArray} (hi : i < rows.length) (hx : (below rows i)[k]? = some x) (hn : rows[x]? = some ⟨kd, nm, l, r⟩) :
    of ⟨kd, nm, l, r⟩ ((knownF of rows ((below rows i).take k) l).getD 0) ((knownF of rows ((below rows i).take k) r).getD 0) = val of rows x := by
  by_cases hk : 3 ≤ kd
  · rw [val_two ok hn hk]
    have hxm : x ∈ below rows i := List.mem_of_getElem? hx
    have hra := rowAt_of hn
    obtain ⟨p1, p2⟩ := below_parts ok hi hxm (by rw [hra]; exact hk)
    rw [hra] at p1 p2
    obtain ⟨q1, q2⟩ := ok.parts hn hk
    simp only [Int.toNat_natCast] at p1 p2 ⊢
    simp only at q1 q2
    have m1 := below_ahead ok hi hx p1 (by omega)
    have m2 := below_ahead ok hi hx p2 (by omega)
    unfold knownF
    rw [if_pos m1, if_pos m2]; rfl
  · rw [val_one ho hn (show kd < 3 by omega) ((knownF of rows ((below rows i).take k) l).getD 0) ((knownF of rows ((below rows i).take k) r).getD 0)]

structure FoldI (of : ND → Int → Int → Int) (rows : List ND) (i mb : Nat) (w2 W : World) (k : Nat) : Prop where
  g : w2.grownBy W (some mb)
  m : TM Try.prog 3 natV intV W mb (knownF of rows ((below rows i).take k))
theorem grown_below {w w' : World} (h : Below w.heap.size w w') {r : Option Nat} : w.grownBy w' r := ⟨h.os, h.tape, h.output, h.size, fun k hk _ => h.block k hk⟩
theorem FoldI.below {of : ND → Int → Int → Int} {rows : List ND} {i mb : Nat} {w2 W W' : World} {k : Nat} (h : FoldI of rows i mb w2 W k) (hb : Below W.heap.size W W') : FoldI of rows i mb w2 W' k :=
  ⟨h.g.trans (grown_below hb), h.m.below hb⟩


end Go.Dk

