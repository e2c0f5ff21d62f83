/- play: an action on both tables. -/
import Derived.Test.YthbjmmnfoeanbaaU
import Derived.Test.YthbjmmnfoeanbaaJ
namespace Go.Dk
open Go.RowKit Go.Maps Go.MapKept
open Go.Proofs hiding intOf

/-- An action. -/
structure AC where
  kind : Int
  name : ByteArray
  a : Int
  b : Int
  n : ND
def AC.cells (x : AC) : List Value := [.int .i64 x.kind, .string x.name, .int .i64 x.a, .int .i64 x.b, .int .i64 x.n.kind, .string x.n.name, .int .i64 x.n.l, .int .i64 x.n.r]
def AC.val (x : AC) : Value := .agg #[.int .i64 x.kind, .string x.name, .int .i64 x.a, .int .i64 x.b, .int .i64 x.n.kind, .string x.n.name, .int .i64 x.n.l, .int .i64 x.n.r]
structure ACin (x : AC) : Prop where
  nm : x.name.size ≤ maxLen
  n : NDin x.n

/-- What an action makes of a table. -/
def playP (rows : List ND) (x : AC) : List ND :=
  if x.kind = 0 then (put rows ⟨1, x.name, 0, 0⟩).rows else
  if x.kind = 1 then (put rows ⟨2, ⟨#[]⟩, 0, 0⟩).rows else
  if x.kind = 2 then (put rows ⟨3, ⟨#[]⟩, x.a, x.b⟩).rows else
  if x.kind = 3 then (put rows ⟨4, ⟨#[]⟩, x.a, x.b⟩).rows else
  if x.kind = 4 then (put rows ⟨5, ⟨#[]⟩, x.a, x.b⟩).rows else
  if x.kind = 5 then (notP rows x.a).rows else
  if x.kind = 6 then (put rows x.n).rows else
  if x.kind = 8 then (cutP rows x.a).2 else rows

/-- The colours that no table of ours has may be anything; ours are 1 and 2. -/
structure Pre (ow : Own) (w : World) (t r : Value) (xs ys : List ND) : Prop where
  t : Tab 1 ow w t xs
  r : RTab 2 ow w r ys

def PlayPost (ow : Own) (w : World) (t r : Value) (xs ys : List ND) (x : AC) (e : Ending) (w' : World) : Prop :=
  ∃ b ow', e = .returned (.bool b) ∧ (xs = ys → b = true) ∧ KeptIn S12 ow w ow' w' ∧ Pair ow' w' t r (playP xs x) (playP ys x)

theorem PutPost.out {k : Nat} {ow : Own} {w : World} {t : Value} {p : Put} {e : Ending} {w' : World} (h : PutPost k ow w t p e w') : ∃ ow', e = .returned (.tuple #[.int .i64 p.id, .int .i64 p.err]) ∧ Kept k ow w ow' w' ∧ Tab k ow' w' t p.rows := by
  obtain ⟨h1, ow', h2, h3⟩ := h; exact ⟨ow', h1, h2, h3⟩
theorem RPutPost.out {k : Nat} {ow : Own} {w : World} {t : Value} {p : Put} {e : Ending} {w' : World} (h : RPutPost k ow w t p e w') : ∃ ow', e = .returned (.tuple #[.int .i64 p.id, .int .i64 p.err]) ∧ Kept k ow w ow' w' ∧ RTab k ow' w' t p.rows := by
  obtain ⟨h1, ow', h2, h3⟩ := h; exact ⟨ow', h1, h2, h3⟩

/-- Both have put: what play answers. -/
theorem play_puts {ow ow1 ow2 : Own} {w w0 w1 w2 : World} {t r : Value} {xs ys xs' ys' : List ND} {p q : Put} {x : AC} {b : Bool} (h0 : Below w.heap.size w w0) (h1 : Kept 1 ow w0 ow1 w1) (t1 : Tab 1 ow1 w1 t p.rows) (h2 : Kept 2 ow1 w1 ow2 w2) (r2 : RTab 2 ow2 w2 r q.rows)
    (ex : playP xs x = p.rows) (ey : playP ys x = q.rows) (hpq : xs = ys → p = q) (hb : b = (decide (p.id = q.id) && decide (p.err = q.err))) : PlayPost ow w t r xs ys x (.returned (.bool b)) w2 :=
  ⟨b, ow2, rfl, fun h => by rw [hb, hpq h]; simp, (KeptIn.of_below h0).trans ((h1.inn (.inl rfl)).trans (h2.inn (.inr rfl))), ⟨by rw [ex]; exact t1.kept h2 (by decide), by rw [ey]; exact r2⟩⟩
end Go.Dk
