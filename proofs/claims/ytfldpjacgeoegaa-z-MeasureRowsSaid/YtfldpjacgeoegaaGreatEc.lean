/- The document's tables: Put, Atom, Bot, Two, Imp, Not, Cut. -/
import Derived.Test.YtfldpjacgeoegaaGreatEa
import Derived.Test.YtfldpjacgeoegaaGreatEb
import Derived.Test.YtfldpjacgeoegaaGreatJ
namespace Go.Dk
open Go.RowKit Go.Maps Go.MapKept
open Go.Proofs hiding intOf

theorem refPut_any (k : Nat) (ow : Own) (w : World) (t : Value) (rows : List ND) (h : RTab k ow w t rows) (kd l r : Int) (nm : ByteArray) (hn : nm.size ≤ maxLen) :
    Calls Tryz.prog 65 #[t, .agg #[.int .i64 kd, .string nm, .int .i64 l, .int .i64 r]] w (RPutPost k ow w t (put rows ⟨kd, nm, l, r⟩)) := by
  unfold put RPutPost
  by_cases hf : fits rows.length ⟨kd, nm, l, r⟩ = 0
  · rw [if_neg (by simpa using hf)]
    cases hi : rows.idxOf? ⟨kd, nm, l, r⟩ with
    | some i =>
      refine (refPut_found k ow w t rows h kd l r nm hn hf i hi).mono ?_
      rintro e w' ⟨rfl, hb⟩
      exact ⟨rfl, ow, .of_below hb, h.below hb⟩
    | none =>
      by_cases hl : 1024 ≤ rows.length
      · simp only [if_pos hl]
        refine (refPut_full k ow w t rows h kd l r nm hn hf hi hl).mono ?_
        rintro e w' ⟨rfl, hb⟩
        exact ⟨rfl, ow, .of_below hb, h.below hb⟩
      · simp only [if_neg hl]
        exact refPut_new k ow w t rows h kd l r nm hn hf hi (by omega)
  · rw [if_pos (by simpa using hf)]
    refine (refPut_err k ow w t rows h kd l r nm hn hf).mono ?_
    rintro e w' ⟨rfl, hb⟩
    exact ⟨rfl, ow, .of_below hb, h.below hb⟩

section
variable (k : Nat) (ow : Own) (w : World) (t : Value) (rows : List ND) (h : RTab k ow w t rows)
include h









end





/-- Behind the document's Cut. -/
theorem refcut_end {k : Nat} {ow : Own} {w : World} {rb : Nat} {v u : Value} {rows : List ND} {n : Nat} (ht : RTabAt k ow w rb v rows) (hn : n ≤ rows.length) (hu : RowW w 51 4 u n (nodeCells (rows.take n))) (ho : u.ownBlock = v.ownBlock) :
    ∃ ow', Kept k ow w ow' (w.setCell ⟨rb, 0, none⟩ u) ∧ RTab k ow' (w.setCell ⟨rb, 0, none⟩ u) (.pointer (some ⟨rb, 0, none⟩)) (rows.take n) := by
  have hl : (rows.take n).length = n := by simp; omega
  have nb : v.ownBlock ≠ some rb := ht.hr.ne ht.hp (by intro cur fr e; cases e)
  refine ⟨ow, kept_setCell _ ht.cp _, rb, u, rfl, setCell_block ht.hp _, ?_, ht.ok.take n, ht.cp, fun g hg => ht.cr g (ho ▸ hg)⟩
  rw [hl]
  exact hu.same fun g hg => Below.heap_setCell _ _ _ _ (fun e => nb (by rw [← ho, hg]; exact congrArg some e))






end Go.Dk

