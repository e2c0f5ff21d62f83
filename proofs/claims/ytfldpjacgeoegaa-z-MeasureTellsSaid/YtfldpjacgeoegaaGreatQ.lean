/- What lies below a formula: plain. -/
import Derived.Test.YtfldpjacgeoegaaGreatP
namespace Go.Dk

/-- The rows of which row i is made. -/
inductive Reach (rows : List ND) : Nat → Nat → Prop
  | refl (i : Nat) : Reach rows i i
  | left {i j : Nat} {n : ND} : rows[i]? = some n → 3 ≤ n.kind → Reach rows n.l.toNat j → Reach rows i j
  | right {i j : Nat} {n : ND} : rows[i]? = some n → 3 ≤ n.kind → Reach rows n.r.toNat j → Reach rows i j

theorem Ok.parts {rows : List ND} (h : Ok rows) {i : Nat} {n : ND} (hi : rows[i]? = some n) (hk : 3 ≤ n.kind) : (0 ≤ n.l ∧ n.l < i) ∧ (0 ≤ n.r ∧ n.r < i) := by
  have hf := h.fit i n hi
  unfold fits at hf
  split at hf
  · omega
  · split at hf
    · omega
    · split at hf
      · split at hf
        · cases hf
        · rename_i h1 h2 h3 h4
          simp only [not_or, hasB, Bool.and_eq_false_iff, decide_eq_false_iff_not, not_or, Classical.not_not] at h4
          omega
      · cases hf

theorem Reach.le {rows : List ND} (h : Ok rows) {i j : Nat} (hr : Reach rows i j) : j ≤ i := by
  induction hr with
  | refl => exact Nat.le_refl _
  | left h1 h2 _ ih => have := h.parts h1 h2; omega
  | right h1 h2 _ ih => have := h.parts h1 h2; omega

theorem Reach.trans {rows : List ND} {i j k : Nat} (h1 : Reach rows i j) (h2 : Reach rows j k) : Reach rows i k := by
  induction h1 with
  | refl => exact h2
  | left a b _ ih => exact .left a b (ih h2)
  | right a b _ ih => exact .right a b (ih h2)

open Classical in
noncomputable def below (rows : List ND) (i : Nat) : List Nat := (List.range (i + 1)).filter fun j => decide (Reach rows i j)

theorem mem_below {rows : List ND} (h : Ok rows) {i j : Nat} : j ∈ below rows i ↔ Reach rows i j := by
  unfold below
  simp only [List.mem_filter, List.mem_range, decide_eq_true_eq]
  exact ⟨fun h => h.2, fun hr => ⟨Nat.lt_succ_of_le (hr.le h), hr⟩⟩

theorem below_pairwise (rows : List ND) (i : Nat) : (below rows i).Pairwise (· < ·) := by
  unfold below
  exact List.Pairwise.filter _ List.pairwise_lt_range

theorem below_le (rows : List ND) (i : Nat) : (below rows i).length ≤ i + 1 := by
  unfold below
  exact Nat.le_trans (List.length_filter_le _ _) (by simp)

def natInts (l : List Nat) : List Int := l.map Int.ofNat

/-- Whatever collects the same numbers, each once, sorts to the rising list. -/
theorem sort_below {rows : List ND} (h : Ok rows) {i : Nat} {l : List Nat} (hd : l.Nodup) (hm : ∀ j, j ∈ l ↔ Reach rows i j) : (natInts l).mergeSort (fun x y => decide (x ≤ y)) = natInts (below rows i) := by
  have hp : l.Perm (below rows i) := by
    refine (List.perm_ext_iff_of_nodup hd ((below_pairwise rows i).imp (fun h => Nat.ne_of_lt h))).2 fun j => ?_
    rw [hm, mem_below h]
  have hp' : ((natInts l).mergeSort (fun x y => decide (x ≤ y))).Perm (natInts (below rows i)) := (List.mergeSort_perm _ _).trans (hp.map Int.ofNat)
  refine List.Perm.eq_of_pairwise (le := fun x y : Int => x ≤ y) (fun a b _ _ h1 h2 => Int.le_antisymm h1 h2) ?_ ?_ hp'
  · have := List.pairwise_mergeSort (le := fun x y : Int => decide (x ≤ y)) (fun a b c h1 h2 => by simp at *; omega) (fun a b => by simp; omega) (natInts l)
    exact this.imp (fun h => by simpa using h)
  · unfold natInts
    rw [List.pairwise_map]
    exact (below_pairwise rows i).imp (fun h => by simp; omega)


end Go.Dk

