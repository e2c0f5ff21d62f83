/- SubstTwice, SubstBack: what their walks carry. -/
import Derived.Test.YtmlohibhoibgkaaZa
import Derived.Test.YtmlohibhoibgkaaZd
import Derived.Test.YtmlohibhoibgkaaZf
import Derived.Test.YtmlohibhoibgkaaU
namespace Go.Dk
open Go.RowKit Go.Maps Go.MapKept
open Go.Proofs hiding intOf

/-- The table, whatever came before it kept. -/
structure TwI (w W : World) (ow : Own) (t : Value) (rows : List ND) : Prop where
  tab : Tab 1 ow W t rows
  bl : Below w.heap.size w W
  lo : ∀ b, b < w.heap.size → ow b = 0
theorem TwI.put {w W W' : World} {ow ow' : Own} {t : Value} {rows rows' : List ND} (h : TwI w W ow t rows) (hk : Kept 1 ow W ow' W') (ht : Tab 1 ow' W' t rows') : TwI w W' ow' t rows' :=
  ⟨ht, h.bl.trans (hk.below h.bl.size (fun b hb => by rw [h.lo b hb]; decide)), fun b hb => (hk.own b (Nat.lt_of_lt_of_le hb h.bl.size)).trans (h.lo b hb)⟩
theorem TwI.below {w W W' : World} {ow : Own} {t : Value} {rows : List ND} (h : TwI w W ow t rows) (hb : Below W.heap.size W W') : TwI w W' ow t rows := ⟨h.tab.below hb, below_trans h.bl hb, h.lo⟩

/-- .. and a row of names and formulas of the call's own. -/
structure TwB (w W : World) (ow : Own) (t : Value) (rows : List ND) (v : Value) (l : List HY) : Prop where
  i : TwI w W ow t rows
  own : W.ownsRow w.heap.size 38 2 v l.length (hyCells l)
  col : ∀ g, v.ownBlock = some g → ow g = 2
theorem TwB.nil {w W : World} {ow : Own} {t : Value} {rows : List ND} (h : TwI w W ow t rows) : TwB w W ow t rows (.slice none 0 0) [] := ⟨h, World.ownsRow_nil _ _ _ _, fun g hg => by simp [Value.ownBlock] at hg⟩
theorem TwB.put {w W W' : World} {ow ow' : Own} {t v : Value} {rows rows' : List ND} {l : List HY} (h : TwB w W ow t rows v l) (hk : Kept 1 ow W ow' W') (ht : Tab 1 ow' W' t rows') : TwB w W' ow' t rows' v l :=
  ⟨h.i.put hk ht, own_keptC h.own hk (fun g hg => by rw [h.col g hg]; decide), fun g hg => (hk.own g (h.own.lt g hg).2).trans (h.col g hg)⟩
theorem TwB.below {w W W' : World} {ow : Own} {t v : Value} {rows : List ND} {l : List HY} (h : TwB w W ow t rows v l) (hb : Below W.heap.size W W') : TwB w W' ow t rows v l :=
  ⟨h.i.below hb, own_belowC h.own hb, h.col⟩
theorem TwB.add {w W W' : World} {ow : Own} {t v v' : Value} {rows : List ND} {l : List HY} {o : Obj} {x : HY} (h : TwB w W ow t rows v l)
    (hown : W'.ownsRow w.heap.size 38 2 v' (l.length + 1) (hyCells l ++ [.string x.name, .int .i64 x.form])) (hgr : (W.alloc o).grownBy W' v.ownBlock) (hat : v'.ownBlock = v.ownBlock ∨ v'.ownBlock = some (W.alloc o).heap.size) :
    TwB w W' (re2 ow W) t rows v' (l ++ [x]) := by
  have g2 : W.grownBy W' v.ownBlock := World.grownBy.trans (World.grownBy_alloc W o _) hgr
  have hk : Kept 2 ow W (re2 ow W) W' := ⟨g2.os, g2.tape, g2.output, g2.size, fun b hb => by simp [re2, hb], fun b hb hne => g2.block b hb (fun e => hne (h.col b e.symm))⟩
  refine ⟨⟨h.i.tab.kept hk (by decide), h.i.bl.grown g2 h.i.bl.size (fun k hk => (h.own.lt k hk).1), fun b hb => ?_⟩, ?_, fun g hg => ?_⟩
  · unfold re2
    rw [if_pos (Nat.lt_of_lt_of_le hb h.i.bl.size)]
    exact h.i.lo b hb
  · have e : hyCells (l ++ [x]) = hyCells l ++ [.string x.name, .int .i64 x.form] := by simp [hyCells, HY.cells]
    rw [e, List.length_append]
    exact hown
  · rcases hat with e | e
    · rw [e] at hg
      unfold re2
      rw [if_pos (h.own.lt g hg).2]
      exact h.col g hg
    · rw [e] at hg
      cases hg
      unfold re2
      rw [if_neg (by simp)]
/-- After Both. -/
theorem TwI.start {w W : World} {ow : Own} {t : Value} {rows : List ND} (ht : Tab 1 ow W t rows) (hb : Below w.heap.size w W) (ho : ∀ b, b < w.heap.size → ow b = 0) : TwI w W ow t rows := ⟨ht, hb, ho⟩
/-- The two tables, whatever came before them kept. -/
structure PaI (w W : World) (ow : Own) (t r : Value) (xs ys : List ND) : Prop where
  p : Pair ow W t r xs ys
  bl : Below w.heap.size w W
  lo : ∀ b, b < w.heap.size → ow b = 0
section
variable {w W W' : World} {ow ow' : Own} {t r : Value} {xs ys zs : List ND}
theorem PaI.putT (h : PaI w W ow t r xs ys) (hk : Kept 1 ow W ow' W') (ht : Tab 1 ow' W' t zs) : PaI w W' ow' t r zs ys :=
  ⟨⟨ht, h.p.r.kept hk (by decide)⟩, h.bl.trans (hk.below h.bl.size (fun b hb => by rw [h.lo b hb]; decide)), fun b hb => (hk.own b (Nat.lt_of_lt_of_le hb h.bl.size)).trans (h.lo b hb)⟩
theorem PaI.putR (h : PaI w W ow t r xs ys) (hk : Kept 2 ow W ow' W') (ht : RTab 2 ow' W' r zs) : PaI w W' ow' t r xs zs :=
  ⟨⟨h.p.t.kept hk (by decide), ht⟩, h.bl.trans (hk.below h.bl.size (fun b hb => by rw [h.lo b hb]; decide)), fun b hb => (hk.own b (Nat.lt_of_lt_of_le hb h.bl.size)).trans (h.lo b hb)⟩
theorem PaI.below (h : PaI w W ow t r xs ys) (hb : Below W.heap.size W W') : PaI w W' ow t r xs ys := ⟨h.p.below hb, below_trans h.bl hb, h.lo⟩

end



end Go.Dk

