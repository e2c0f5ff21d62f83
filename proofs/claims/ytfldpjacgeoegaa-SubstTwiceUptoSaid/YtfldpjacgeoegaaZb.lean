/- The heads of the statements on layer 7: what comes, plain. -/
import Derived.Test.YtfldpjacgeoegaaZa
import Derived.Test.YtfldpjacgeoegaaS
namespace Go.Dk
open Go.RowKit Go.Maps Go.MapKept
open Go.Proofs hiding intOf

def g3 : List ND := [⟨1, ⟨#[112]⟩, 0, 0⟩, ⟨1, ⟨#[113]⟩, 0, 0⟩, ⟨5, ⟨#[]⟩, 0, 1⟩]
def g4 : List ND := [⟨1, ⟨#[112]⟩, 0, 0⟩, ⟨1, ⟨#[113]⟩, 0, 0⟩, ⟨5, ⟨#[]⟩, 0, 1⟩, ⟨5, ⟨#[]⟩, 1, 0⟩]
def g5 : List ND := [⟨1, ⟨#[112]⟩, 0, 0⟩, ⟨1, ⟨#[113]⟩, 0, 0⟩, ⟨5, ⟨#[]⟩, 0, 1⟩, ⟨5, ⟨#[]⟩, 1, 0⟩, ⟨5, ⟨#[]⟩, 1, 1⟩]
def g7 : List ND := [⟨1, ⟨#[112]⟩, 0, 0⟩, ⟨1, ⟨#[113]⟩, 0, 0⟩, ⟨5, ⟨#[]⟩, 0, 1⟩, ⟨5, ⟨#[]⟩, 1, 0⟩, ⟨5, ⟨#[]⟩, 1, 1⟩, ⟨2, ⟨#[]⟩, 0, 0⟩, ⟨5, ⟨#[]⟩, 5, 5⟩]
def g8 : List ND := [⟨1, ⟨#[112]⟩, 0, 0⟩, ⟨1, ⟨#[113]⟩, 0, 0⟩, ⟨5, ⟨#[]⟩, 0, 1⟩, ⟨5, ⟨#[]⟩, 1, 0⟩, ⟨5, ⟨#[]⟩, 1, 1⟩, ⟨2, ⟨#[]⟩, 0, 0⟩, ⟨5, ⟨#[]⟩, 5, 5⟩, ⟨5, ⟨#[]⟩, 0, 0⟩]
def byPQ : List HY := [⟨⟨#[112]⟩, 1⟩, ⟨⟨#[113]⟩, 0⟩]
def byPP : List HY := [⟨⟨#[112]⟩, 0⟩, ⟨⟨#[112]⟩, 0⟩]

theorem gp3 : put hr2 ⟨5, ⟨#[]⟩, 0, 1⟩ = ⟨g3, 2, 0⟩ := by kernel_rfl
theorem gp5 : put g4 ⟨5, ⟨#[]⟩, 1, 0⟩ = ⟨g4, 3, 0⟩ := by kernel_rfl
theorem gp6 : put g4 ⟨5, ⟨#[]⟩, 1, 1⟩ = ⟨g5, 4, 0⟩ := by kernel_rfl
theorem gp9 : put g8 ⟨5, ⟨#[]⟩, 0, 0⟩ = ⟨g8, 7, 0⟩ := by kernel_rfl

theorem below_g {rows : List ND} {i : Nat} {l : List Nat} (hs : l = (List.range (i + 1)).filter (fun j => decide (j ∈ l))) (h : ∀ j, Reach rows i j ↔ j ∈ l) : below rows i = l := by
  have : below rows i = (List.range (i + 1)).filter (fun j => decide (j ∈ l)) := by
    unfold below
    congr 1
    funext j
    simp [h]
  rw [this, ← hs]
theorem reach_leaf {rows : List ND} {i j : Nat} {n : ND} (hn : rows[i]? = some n) (hk : n.kind < 3) (h : Reach rows i j) : j = i := by
  cases h with
  | refl => rfl
  | left hi hk2 _ => rw [hn] at hi; cases hi; omega
  | right hi hk2 _ => rw [hn] at hi; cases hi; omega
theorem reach_node {rows : List ND} {i : Nat} {n : ND} (hn : rows[i]? = some n) (hk : 3 ≤ n.kind) (j : Nat) : Reach rows i j ↔ j = i ∨ Reach rows n.l.toNat j ∨ Reach rows n.r.toNat j := by
  constructor
  · intro h
    cases h with
    | refl => exact .inl rfl
    | left hi _ h => rw [hn] at hi; cases hi; exact .inr (.inl h)
    | right hi _ h => rw [hn] at hi; cases hi; exact .inr (.inr h)
  · rintro (rfl | h | h)
    · exact .refl _
    · exact .left hn hk h
    · exact .right hn hk h
theorem reach_leaf_iff {rows : List ND} {i : Nat} {n : ND} (hn : rows[i]? = some n) (hk : n.kind < 3) (j : Nat) : Reach rows i j ↔ j = i := ⟨reach_leaf hn hk, fun e => e ▸ .refl _⟩
theorem bl3 : below g3 2 = [0, 1, 2] := by
  refine below_g (by decide) fun j => ?_
  rw [reach_node (n := ⟨5, ⟨#[]⟩, 0, 1⟩) rfl (by decide), reach_leaf_iff (i := Int.toNat 0) (n := ⟨1, ⟨#[112]⟩, 0, 0⟩) rfl (by decide), reach_leaf_iff (i := Int.toNat 1) (n := ⟨1, ⟨#[113]⟩, 0, 0⟩) rfl (by decide)]
  simp; omega
theorem bl7 : below g7 2 = [0, 1, 2] := by
  refine below_g (by decide) fun j => ?_
  rw [reach_node (n := ⟨5, ⟨#[]⟩, 0, 1⟩) rfl (by decide), reach_leaf_iff (i := Int.toNat 0) (n := ⟨1, ⟨#[112]⟩, 0, 0⟩) rfl (by decide), reach_leaf_iff (i := Int.toNat 1) (n := ⟨1, ⟨#[113]⟩, 0, 0⟩) rfl (by decide)]
  simp; omega
theorem bl5 : below g5 4 = [1, 4] := by
  refine below_g (by decide) fun j => ?_
  rw [reach_node (n := ⟨5, ⟨#[]⟩, 1, 1⟩) rfl (by decide), reach_leaf_iff (i := Int.toNat 1) (n := ⟨1, ⟨#[113]⟩, 0, 0⟩) rfl (by decide)]
  simp; omega

theorem gp4 : putP g3 2 byPQ = ⟨g4, 3, 0⟩ := by
  unfold putP
  rw [if_neg (by decide), if_neg (by decide), if_neg (by decide)]
  unfold anewP
  rw [show Int.toNat 2 = 2 from rfl, bl3]
  kernel_rfl
theorem gp7 : simpP g5 4 = ⟨g7, 6, 0⟩ := by
  unfold simpP
  rw [if_neg (by decide)]
  unfold anewP
  rw [show Int.toNat 4 = 4 from rfl, bl5]
  kernel_rfl
theorem gp8 : putP g7 2 byPP = ⟨g7, 0, 70⟩ := by
  unfold putP
  rw [if_neg (by decide), if_pos (by decide)]
theorem gpR : replP g7 2 1 0 = ⟨g8, 7, 0⟩ := by
  unfold replP
  rw [if_neg (by decide)]
  unfold anewP
  rw [show Int.toNat 2 = 2 from rfl, bl7]
  kernel_rfl

theorem gpM (ok : Ok g4) {l : List HY} {b : Bool} (h : MatchS g4 2 3 l b) : l = byPQ ∧ b = true := by
  refine matchS_unique ok h ⟨fun _ => ?_, fun h => (by cases h)⟩
  have t0 : tree g4 0 = .atom ⟨#[112]⟩ := tree_atom (n := ⟨1, ⟨#[112]⟩, 0, 0⟩) rfl rfl
  have t1 : tree g4 1 = .atom ⟨#[113]⟩ := tree_atom (n := ⟨1, ⟨#[113]⟩, 0, 0⟩) rfl rfl
  have t2 : tree g4 2 = .imp (.atom ⟨#[112]⟩) (.atom ⟨#[113]⟩) := by
    rw [tree_two ok (n := ⟨5, ⟨#[]⟩, 0, 1⟩) rfl (by decide)]
    show treeOf _ (tree g4 0) (tree g4 1) = _
    rw [t0, t1]; simp [treeOf]
  have t3 : tree g4 3 = .imp (.atom ⟨#[113]⟩) (.atom ⟨#[112]⟩) := by
    rw [tree_two ok (n := ⟨5, ⟨#[]⟩, 1, 0⟩) rfl (by decide)]
    show treeOf _ (tree g4 1) (tree g4 0) = _
    rw [t0, t1]; simp [treeOf]
  have n0 : namedF byPQ ⟨#[112]⟩ = some 1 := by decide
  have n1 : namedF byPQ ⟨#[113]⟩ = some 0 := by decide
  refine ⟨fun s => ?_, by unfold byPQ; decide, by unfold byPQ; decide, ?_⟩
  · rw [t2]
    simp [atoms, byPQ, eq_comm]
  · rw [t2, t3]
    simp only [sub, n0, n1, Option.map_some, Option.getD_some]
    show Fm.imp (tree g4 1) (tree g4 0) = _
    rw [t0, t1]

end Go.Dk

