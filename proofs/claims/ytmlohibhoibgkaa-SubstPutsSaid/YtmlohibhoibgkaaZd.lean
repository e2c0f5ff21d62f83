/- Names and formulas as an argument, opened. -/
import Derived.Test.YtmlohibhoibgkaaM
import Derived.Test.YtmlohibhoibgkaaSv
namespace Go.Dk
open Go.RowKit Go.Maps Go.MapKept Go.ChangeShapes Go.WideShapes Go.Deep
open Go.Proofs hiding intOf

structure HYin (h : HY) : Prop where
  nm : h.name.size ≤ maxLen
  f : (Lit.int .i64 h.form).wf = true

section
variable {H : Type} {enc : TypeId × Value → H} {w : World} {base : Nat} {spare : Nat → Bool} {held : Bool}

set_option maxRecDepth 100000 in
theorem trod_hyp {fuel : Nat} {cs : List Value} {x : DataW H × List MemPlace} (h : DataW.trod enc Try.prog w base spare held fuel 38 cs = some x) : ∃ n : HY, cs = n.cells ∧ HYin n := by
  obtain ⟨y0, y1, m, rfl, hl, h0, h1⟩ := Go.ChangeShapes.trod_struct2 Try.underlying38 h
  have hc : Try.prog.cellsOf 38 = 2 := by kernel_rfl
  rw [hc] at hl
  match cs, hl with
  | [c0, c1], _ =>
    obtain ⟨s, e0, rfl, w0⟩ := DataW.trod_string (Try.underlying9) h0
    obtain ⟨k, e1, rfl, w1⟩ := DataW.trod_int (Try.underlying3) h1
    have k1 : Try.prog.cellsOf 3 = 1 := by kernel_rfl
    have k2 : Try.prog.cellsOf 9 = 1 := by kernel_rfl
    simp only [k1, k2] at e0 e1
    refine ⟨⟨s, k⟩, ?_, ⟨w0, w1⟩⟩
    simp at e0 e1
    subst e0 e1
    rfl

set_option maxRecDepth 100000 in
theorem open_hyps {v : Value} {r : Go.Reach} {b0 : Nat} {d : DataW H} {p : List MemPlace} (hv : Value.okWide Try.prog w r b0 23 v) (h : DataW.Trod enc Try.prog w base spare held 23 v d p) :
    ∃ l : List HY, Rd w v l.length 2 (hyCells l) ∧ l.length ≤ maxLen ∧ (∀ n ∈ l, HYin n) ∧ ∀ B, (∀ m ∈ d.weights Try.prog 23, m ≤ B) → l.length * 24 ≤ B := by
  have hby : Try.prog.bytesOf 38 = 24 := by kernel_rfl
  have := open_rows (te := 38) HY.cells HYin 2 (by decide) (fun _ => rfl) (by kernel_rfl) Try.underlying23 (fun _ _ _ h => trod_hyp h) hv h
  rw [hby] at this
  exact this

end


end Go.Dk

