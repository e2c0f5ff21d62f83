/- The document's Occurs. -/
import Derived.Test.YtfldpjacgeoegaaGreatYw
import Derived.Test.YtfldpjacgeoegaaGreatRg
namespace Go.Dk
open Go.RowKit Go.Maps Go.MapKept
open Go.Proofs hiding intOf

theorem infoInt' : ∃ i, Tryz.prog.info? 3 = some i ∧ i.zero = some (.int .i64 0) ∧ i.size = 1 ∧ i.bytes = 8 := by
  obtain ⟨i, hi, h⟩ := Option.map_eq_some_iff.1 infoInt
  simp only [Prod.mk.injEq] at h
  exact ⟨i, hi, h⟩

/-- Two rows of numbers of the call's own. -/
structure OccI (w W : World) (bp bn n : Nat) (P N : List Int) : Prop where
  op : W.ownsRow w.heap.size 3 1 (.slice (some ⟨bp, 0, none⟩) n n) n (ints P)
  on : W.ownsRow w.heap.size 3 1 (.slice (some ⟨bn, 0, none⟩) n n) n (ints N)
  ne : bp ≠ bn
  bl : Below w.heap.size w W

theorem ints_set (zs : List Int) (k : Nat) (x : Int) : (ints zs).set k (.int .i64 x) = ints (zs.set k x) := by simp [ints, List.map_set]
section
variable {w W W' : World} {bp bn n : Nat} {P N : List Int}
theorem OccI.setP (h : OccI w W bp bn n P N) (k : Nat) (x : Int) : OccI w (W.setCell ⟨bp, k, none⟩ (.int .i64 x)) bp bn n (P.set k x) N := by
  have := h.op.stored k (.int .i64 x)
  rw [ints_set] at this
  exact ⟨this.1, h.on.kept this.2 (.inr (by intro e; cases e; exact h.ne rfl)), h.ne, h.bl.grown this.2 h.bl.size (by intro q hq; cases hq; exact (h.op.lt bp rfl).1)⟩
theorem OccI.setN (h : OccI w W bp bn n P N) (k : Nat) (x : Int) : OccI w (W.setCell ⟨bn, k, none⟩ (.int .i64 x)) bp bn n P (N.set k x) := by
  have := h.on.stored k (.int .i64 x)
  rw [ints_set] at this
  exact ⟨h.op.kept this.2 (.inr (by intro e; cases e; exact h.ne rfl)), this.1, h.ne, h.bl.grown this.2 h.bl.size (by intro q hq; cases hq; exact (h.on.lt bn rfl).1)⟩
theorem OccI.below (h : OccI w W bp bn n P N) (hb : Below W.heap.size W W') : OccI w W' bp bn n P N :=
  ⟨own_below h.op hb, own_below h.on hb, h.ne, below_trans h.bl hb⟩
theorem OccI.lenP (h : OccI w W bp bn n P N) : P.length = n := by have := h.op.1; simpa [ints] using this
theorem OccI.lenN (h : OccI w W bp bn n P N) : N.length = n := by have := h.on.1; simpa [ints] using this
theorem OccI.cellP (h : OccI w W bp bn n P N) {k : Nat} {x : Int} (hk : P[k]? = some x) : W.cell? ⟨bp, k, none⟩ = some (.int .i64 x) := by
  have hl := (List.getElem?_eq_some_iff.1 hk).1
  have := h.lenP
  rw [h.op.cellAt k (by omega)]
  simp [ints, hk]
theorem OccI.cellN (h : OccI w W bp bn n P N) {k : Nat} {x : Int} (hk : N[k]? = some x) : W.cell? ⟨bn, k, none⟩ = some (.int .i64 x) := by
  have hl := (List.getElem?_eq_some_iff.1 hk).1
  have := h.lenN
  rw [h.on.cellAt k (by omega)]
  simp [ints, hk]
theorem OccI.frP (h : OccI w W bp bn n P N) (k : Nat) : W.frozen? ⟨bp, k, none⟩ = false := h.op.frozenAt k
theorem OccI.frN (h : OccI w W bp bn n P N) (k : Nat) : W.frozen? ⟨bn, k, none⟩ = false := h.on.frozenAt k

end


def rowP (f : Cnt) (n : Nat) : List Int := (List.range n).map fun y => (f y).1
def rowN (f : Cnt) (n : Nat) : List Int := (List.range n).map fun y => (f y).2
theorem rowP_at (f : Cnt) {n y : Nat} (h : y < n) : (rowP f n)[y]? = some (f y).1 := by simp [rowP, h]
theorem rowN_at (f : Cnt) {n y : Nat} (h : y < n) : (rowN f n)[y]? = some (f y).2 := by simp [rowN, h]
theorem rowP_add (f : Cnt) (n x : Nat) (p q : Int) : rowP (addC f x p q) n = (rowP f n).set x (capI ((f x).1 + p)) := by
  apply List.ext_getElem?
  intro y
  rw [List.getElem?_set]
  by_cases hy : y < n
  · rw [rowP_at _ hy]
    by_cases e : x = y
    · subst e; rw [if_pos rfl, if_pos (by simp [rowP, hy])]; simp [addC]
    · rw [if_neg e, rowP_at _ hy]; simp [addC, Ne.symm e]
  · have h1 : (rowP (addC f x p q) n)[y]? = none := by simp [rowP]; omega
    have h2 : (rowP f n)[y]? = none := by simp [rowP]; omega
    rw [h1, h2]
    split
    · rw [if_neg (by simp [rowP]; omega)]
    · rfl
theorem rowN_add (f : Cnt) (n x : Nat) (p q : Int) : rowN (addC f x p q) n = (rowN f n).set x (capI ((f x).2 + q)) := by
  apply List.ext_getElem?
  intro y
  rw [List.getElem?_set]
  by_cases hy : y < n
  · rw [rowN_at _ hy]
    by_cases e : x = y
    · subst e; rw [if_pos rfl, if_pos (by simp [rowN, hy])]; simp [addC]
    · rw [if_neg e, rowN_at _ hy]; simp [addC, Ne.symm e]
  · have h1 : (rowN (addC f x p q) n)[y]? = none := by simp [rowN]; omega
    have h2 : (rowN f n)[y]? = none := by simp [rowN]; omega
    rw [h1, h2]
    split
    · rw [if_neg (by simp [rowN]; omega)]
    · rfl
theorem rowP_start (n i : Nat) : rowP (fun x => if x = i then (1, 0) else (0, 0)) n = (List.replicate n 0).set i 1 := by
  apply List.ext_getElem?
  intro y
  rw [List.getElem?_set, List.getElem?_replicate]
  by_cases hy : y < n
  · rw [rowP_at _ hy]
    by_cases e : i = y
    · subst e; simp [hy]
    · rw [if_neg e, if_neg (Ne.symm e), if_pos hy]
  · have h1 : (rowP (fun x => if x = i then (1, 0) else (0, 0)) n)[y]? = none := by simp [rowP]; omega
    rw [h1]
    split
    · rw [if_neg (by simp; omega)]
    · first | rfl | simp [hy]
theorem rowN_start (n i : Nat) : rowN (fun x => if x = i then (1, 0) else (0, 0)) n = List.replicate n 0 := by
  apply List.ext_getElem?
  intro y
  rw [List.getElem?_replicate]
  by_cases hy : y < n
  · rw [rowN_at _ hy, if_pos hy]; split <;> rfl
  · rw [if_neg hy]; simp [rowN]; omega




theorem OccI.addP {w W : World} {bp bn n : Nat} {f : Cnt} {N : List Int} (h : OccI w W bp bn n (rowP f n) N) (x : Nat) (p q : Int) : OccI w (W.setCell ⟨bp, x, none⟩ (.int .i64 (capI ((f x).1 + p)))) bp bn n (rowP (addC f x p q) n) N := by
  rw [rowP_add]; exact h.setP x _
theorem OccI.addN {w W : World} {bp bn n : Nat} {f : Cnt} {P : List Int} (h : OccI w W bp bn n P (rowN f n)) (x : Nat) (p q : Int) : OccI w (W.setCell ⟨bn, x, none⟩ (.int .i64 (capI ((f x).2 + q)))) bp bn n P (rowN (addC f x p q) n) := by
  rw [rowN_add]; exact h.setN x _
theorem Boxed.other {w : World} {b : Nat} {nd : ND} (h : Boxed w b nd) {c i : Nat} {v : Value} (hne : b ≠ c) : Boxed (w.setCell ⟨c, i, none⟩ v) b nd := by
  have e : (w.setCell ⟨c, i, none⟩ v).heap[b]? = w.heap[b]? := Below.heap_setCell _ _ _ _ hne
  exact ⟨(World.cell?_of_block e).trans h.c0, (World.cell?_of_block e).trans h.c1, (World.cell?_of_block e).trans h.c2, (World.cell?_of_block e).trans h.c3⟩
/-- The two rows and the row's box. -/
structure OccB (w W : World) (bp bn n : Nat) (P N : List Int) (b : Nat) (nd : ND) : Prop where
  o : OccI w W bp bn n P N
  bx : Boxed W b nd
  n1 : b ≠ bp
  n2 : b ≠ bn
section
variable {w W W' : World} {bp bn n b : Nat} {nd : ND} {P N : List Int} {f : Cnt}
theorem OccB.below (h : OccB w W bp bn n P N b nd) (hb : Below W.heap.size W W') : OccB w W' bp bn n P N b nd := ⟨h.o.below hb, h.bx.below hb, h.n1, h.n2⟩
theorem OccB.addP (h : OccB w W bp bn n (rowP f n) N b nd) (x : Nat) (p q : Int) : OccB w (W.setCell ⟨bp, x, none⟩ (.int .i64 (capI ((f x).1 + p)))) bp bn n (rowP (addC f x p q) n) N b nd := ⟨h.o.addP x p q, h.bx.other h.n1, h.n1, h.n2⟩
theorem OccB.addN (h : OccB w W bp bn n P (rowN f n) b nd) (x : Nat) (p q : Int) : OccB w (W.setCell ⟨bn, x, none⟩ (.int .i64 (capI ((f x).2 + q)))) bp bn n P (rowN (addC f x p q) n) b nd := ⟨h.o.addN x p q, h.bx.other h.n2, h.n1, h.n2⟩

end



end Go.Dk

