/- Below of the document's tables. -/
import Derived.Test.YtfldpjacgeoegaaGreatEc
import Derived.Test.YtfldpjacgeoegaaGreatL
import Derived.Laws.OwnMore
namespace Go.Dk
open Go.RowKit Go.Maps Go.MapKept
open Go.Proofs hiding intOf

/-! ### plain: the set, row by row downwards -/

/-- What is reached from row i by rows that are j or more. -/
inductive RD (rows : List ND) (i j : Nat) : Nat → Prop
  | base : RD rows i j i
  | left {x : Nat} {n : ND} : RD rows i j x → j ≤ x → rows[x]? = some n → 3 ≤ n.kind → RD rows i j n.l.toNat
  | right {x : Nat} {n : ND} : RD rows i j x → j ≤ x → rows[x]? = some n → 3 ≤ n.kind → RD rows i j n.r.toNat

theorem RD.mono {rows : List ND} {i j j' : Nat} (hj : j' ≤ j) {x : Nat} (h : RD rows i j x) : RD rows i j' x := by
  induction h with
  | base => exact .base
  | left _ h2 h3 h4 ih => exact .left ih (by omega) h3 h4
  | right _ h2 h3 h4 ih => exact .right ih (by omega) h3 h4

theorem RD.top {rows : List ND} {i j x : Nat} (h : RD rows i j x) (hj : i < j) (_ok : Ok rows) : x = i := by
  induction h with
  | base => rfl
  | left _ h2 _ _ ih => omega
  | right _ h2 _ _ ih => omega

theorem RD.step {rows : List ND} {i j x : Nat} (ok : Ok rows) : RD rows i j x ↔ RD rows i (j + 1) x ∨ ∃ n, RD rows i (j + 1) j ∧ rows[j]? = some n ∧ 3 ≤ n.kind ∧ (x = n.l.toNat ∨ x = n.r.toNat) := by
  constructor
  · intro h
    induction h with
    | base => exact .inl .base
    | @left x n h1 h2 h3 h4 ih =>
      rcases ih with ih | ⟨m, g1, g2, g3, g4⟩
      · by_cases e : j + 1 ≤ x
        · exact .inl (.left ih e h3 h4)
        · have : x = j := by omega
          subst this
          exact .inr ⟨n, ih, h3, h4, .inl rfl⟩
      · have := ok.parts g2 g3
        omega
    | @right x n h1 h2 h3 h4 ih =>
      rcases ih with ih | ⟨m, g1, g2, g3, g4⟩
      · by_cases e : j + 1 ≤ x
        · exact .inl (.right ih e h3 h4)
        · have : x = j := by omega
          subst this
          exact .inr ⟨n, ih, h3, h4, .inr rfl⟩
      · have := ok.parts g2 g3
        omega
  · rintro (h | ⟨n, h1, h2, h3, rfl | rfl⟩)
    · exact h.mono (by omega)
    · exact .left (h1.mono (by omega)) (Nat.le_refl _) h2 h3
    · exact .right (h1.mono (by omega)) (Nat.le_refl _) h2 h3

theorem RD.reach {rows : List ND} {i x : Nat} : RD rows i 0 x ↔ Reach rows i x := by
  constructor
  · intro h
    induction h with
    | base => exact .refl _
    | left _ _ h3 h4 ih => exact ih.trans (.left h3 h4 (.refl _))
    | right _ _ h3 h4 ih => exact ih.trans (.right h3 h4 (.refl _))
  · intro h
    have key : ∀ y x, Reach rows y x → RD rows i 0 y → RD rows i 0 x := by
      intro y x hr
      induction hr with
      | refl => exact id
      | left h1 h2 _ ih => exact fun g => ih (.left g (Nat.zero_le _) h1 h2)
      | right h1 h2 _ ih => exact fun g => ih (.right g (Nat.zero_le _) h1 h2)
    exact key _ _ h .base

/-- The row of marks says this set. -/
def Marks (rows : List ND) (i j : Nat) (bs : List Bool) : Prop := bs.length = rows.length ∧ ∀ x, bs[x]? = some true ↔ RD rows i j x

theorem set_true {bs : List Bool} {k x : Nat} (hk : k < bs.length) : (bs.set k true)[x]? = some true ↔ bs[x]? = some true ∨ x = k := by
  rw [List.getElem?_set]
  by_cases e : k = x
  · subst e; simp [hk]
  · rw [if_neg e]
    exact ⟨.inl, fun h => h.resolve_right (fun h => e h.symm)⟩

theorem Marks.start {rows : List ND} {i : Nat} (ok : Ok rows) (hi : i < rows.length) : Marks rows i (i + 1) ((List.replicate rows.length false).set i true) := by
  refine ⟨by simp, fun x => ?_⟩
  rw [set_true (by simpa using hi)]
  constructor
  · rintro (h | rfl)
    · rw [List.getElem?_replicate] at h; split at h <;> cases h
    · exact .base
  · intro h; exact .inr (h.top (Nat.lt_succ_self _) ok)

theorem Marks.skip {rows : List ND} {i j : Nat} {bs : List Bool} (h : Marks rows i (j + 1) bs) (ok : Ok rows) (hj : bs[j]? = some false ∨ ∃ n, rows[j]? = some n ∧ ¬ 3 ≤ n.kind) : Marks rows i j bs := by
  refine ⟨h.1, fun x => ?_⟩
  rw [h.2, RD.step (i := i) (j := j) (x := x) ok]
  refine ⟨.inl, fun g => g.resolve_right ?_⟩
  rintro ⟨n, h1, h2, h3, _⟩
  rcases hj with hj | ⟨m, h4, h5⟩
  · have := (h.2 j).2 h1
    rw [hj] at this; cases this
  · rw [h4] at h2; cases h2; exact h5 h3

theorem Marks.both {rows : List ND} {i j : Nat} {bs : List Bool} (h : Marks rows i (j + 1) bs) (ok : Ok rows) (hj : bs[j]? = some true) {n : ND} (hn : rows[j]? = some n) (hk : 3 ≤ n.kind) : Marks rows i j ((bs.set n.l.toNat true).set n.r.toNat true) := by
  have hp := ok.parts hn hk
  have hl := (List.getElem?_eq_some_iff.1 hn).1
  refine ⟨by simpa using h.1, fun x => ?_⟩
  rw [set_true (by simp; rw [h.1]; omega), set_true (by rw [h.1]; omega), h.2, RD.step (i := i) (j := j) (x := x) ok]
  constructor
  · rintro ((h1 | rfl) | rfl)
    · exact .inl h1
    · exact .inr ⟨n, (h.2 j).1 hj, hn, hk, .inl rfl⟩
    · exact .inr ⟨n, (h.2 j).1 hj, hn, hk, .inr rfl⟩
  · rintro (h1 | ⟨m, _, h2, _, rfl | rfl⟩)
    · exact .inl (.inl h1)
    · rw [hn] at h2; cases h2; exact .inl (.inr rfl)
    · rw [hn] at h2; cases h2; exact .inr rfl

/-- What the second loop has collected. -/
def marked (bs : List Bool) (j : Nat) : List Nat := (List.range j).filter fun x => bs[x]? == some true
theorem marked_step (bs : List Bool) (j : Nat) : marked bs (j + 1) = if bs[j]? = some true then marked bs j ++ [j] else marked bs j := by
  unfold marked
  rw [List.range_succ, List.filter_append]
  by_cases h : bs[j]? = some true
  · simp [h]
  · simp [h]
theorem marked_le (bs : List Bool) (j : Nat) : (marked bs j).length ≤ j := by
  unfold marked
  exact Nat.le_trans (List.length_filter_le _ _) (by simp)
theorem marked_all {rows : List ND} {i : Nat} {bs : List Bool} (h : Marks rows i 0 bs) : marked bs (i + 1) = below rows i := by
  unfold marked below
  refine List.filter_congr fun x _ => ?_
  have := (h.2 x).trans RD.reach
  by_cases hr : Reach rows i x
  · simp [hr, this.2 hr]
  · have h2 : ¬ bs[x]? = some true := fun g => hr (this.1 g)
    simp [hr, h2]

theorem Ok.kinds {rows : List ND} (h : Ok rows) {i : Nat} {n : ND} (hi : rows[i]? = some n) : 1 ≤ n.kind ∧ n.kind ≤ 5 := by
  have hf := h.fit i n hi
  unfold fits at hf
  split at hf
  · omega
  · split at hf
    · omega
    · split at hf
      · omega
      · cases hf

/-! ### the walk -/
def bools (bs : List Bool) : List Value := bs.map Value.bool
theorem bools_set (bs : List Bool) (k : Nat) (b : Bool) : (bools bs).set k (.bool b) = bools (bs.set k b) := by simp [bools, List.map_set]
theorem infoBool' : (Tryz.prog.info? 4).map (fun i => (i.zero, i.size, i.bytes)) = some (some (.bool false), 1, 1) := by kernel_rfl
theorem infoBool : ∃ i, Tryz.prog.info? 4 = some i ∧ i.zero = some (.bool false) ∧ i.size = 1 ∧ i.bytes = 1 := by
  obtain ⟨i, hi, h⟩ := Option.map_eq_some_iff.1 infoBool'
  simp only [Prod.mk.injEq] at h
  exact ⟨i, hi, h⟩

structure RowB (w W : World) (n : Nat) (bs : List Bool) : Prop where
  own : W.ownsRow w.heap.size 4 1 (.slice (some ⟨w.heap.size, 0, none⟩) n n) n (bools bs)
  bl : Below w.heap.size w W

theorem RowB.set {w W : World} {n : Nat} {bs : List Bool} (h : RowB w W n bs) (k : Nat) : RowB w (W.setCell ⟨w.heap.size, k, none⟩ (.bool true)) n (bs.set k true) := by
  have := h.own.stored k (.bool true)
  rw [bools_set] at this
  exact ⟨this.1, h.bl.grown this.2 h.bl.size (by intro g hg; cases hg; exact Nat.le_refl _)⟩
theorem RowB.cell {w W : World} {n : Nat} {bs : List Bool} (h : RowB w W n bs) {k : Nat} {b : Bool} (hk : bs[k]? = some b) (hn : bs.length = n) : W.cell? ⟨w.heap.size, k, none⟩ = some (.bool b) := by
  have hl := (List.getElem?_eq_some_iff.1 hk).1
  rw [h.own.cellAt k (by omega)]
  simp [bools, hk]
theorem RowB.frozen {w W : World} {n : Nat} {bs : List Bool} (h : RowB w W n bs) (k : Nat) : W.frozen? ⟨w.heap.size, k, none⟩ = false := h.own.frozenAt k

theorem _root_.Go.World.ownsRow.alloc2 {w : World} {base : Nat} {e : TypeId} {size : Nat} {v : Value} {n : Nat} {xs : List Value} (h : w.ownsRow base e size v n xs) (o : Obj) : (w.alloc o).ownsRow base e size v n xs :=
  h.kept (row := none) (World.grownBy_alloc w o none) (by cases v.ownBlock <;> simp)

structure Outs (w W : World) (n : Nat) (bs : List Bool) (j : Nat) (v : Value) : Prop where
  row : RowB w W n bs
  own : W.ownsRow w.heap.size 3 1 v (marked bs j).length (ints (natInts (marked bs j)))

theorem Outs.next {w W w5 : World} {n : Nat} {bs : List Bool} {j : Nat} {v v5 : Value} {o : Obj} (h : Outs w W n bs j v) (_hn : 0 < n)
    (hown : w5.ownsRow w.heap.size 3 1 v5 ((marked bs j).length + 1) (ints (natInts (marked bs j)) ++ [.int .i64 (j : Int)])) (hgr : (W.alloc o).grownBy w5 v.ownBlock) (he : marked bs (j + 1) = marked bs j ++ [j]) : Outs w w5 n bs (j + 1) v5 := by
  have g2 : W.grownBy w5 v.ownBlock := World.grownBy.trans (World.grownBy_alloc W o _) hgr
  have ne : v.ownBlock ≠ some w.heap.size := by
    rcases h.row.own.2 with ⟨e, _⟩ | ⟨g, cap, cur, e, _, hg, _⟩
    · cases e
    · cases e
      exact own_ne h.own hg (by intro cur fr e; cases e)
  refine ⟨⟨h.row.own.kept g2 (.inr ?_), h.row.bl.grown g2 h.row.bl.size (fun k hk => (h.own.lt k hk).1)⟩, ?_⟩
  · intro e
    exact ne e.symm
  · rw [he]
    have : ints (natInts (marked bs j ++ [j])) = ints (natInts (marked bs j)) ++ [.int .i64 (j : Int)] := by simp [ints, natInts]
    rw [this, List.length_append]
    exact hown






end Go.Dk

