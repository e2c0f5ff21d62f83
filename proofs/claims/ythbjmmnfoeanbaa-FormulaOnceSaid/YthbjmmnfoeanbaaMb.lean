/- Rows of actions as an argument. -/
import Derived.Test.YthbjmmnfoeanbaaM
import Derived.Test.YthbjmmnfoeanbaaUa
namespace Go.Dk
open Go.RowKit Go.Maps Go.MapKept Go.ChangeShapes Go.WideShapes Go.Deep
open Go.Proofs

instance : Inhabited AC := ⟨⟨0, ⟨#[]⟩, 0, 0, default⟩⟩

section
variable {H : Type} {enc : TypeId × Value → H} {w : World} {base : Nat} {spare : Nat → Bool} {held : Bool}

theorem trod_struct5 {P : Program} {t : TypeId} {f0 f1 f2 f3 f4 : Field} {fuel : Nat} {cs : List Value} {x : DataW H × List MemPlace} (ht : P.underlying t = some (.struct #[f0, f1, f2, f3, f4])) (h : DataW.trod enc P w base spare held fuel t cs = some x) :
    ∃ y0 y1 y2 y3 y4 n, x.1 = .agg [y0.1, y1.1, y2.1, y3.1, y4.1] ∧ cs.length = P.cellsOf t ∧ DataW.trod enc P w base spare held n f0.type ((cs.drop f0.offset).take (P.cellsOf f0.type)) = some y0 ∧
      DataW.trod enc P w base spare held n f1.type ((cs.drop f1.offset).take (P.cellsOf f1.type)) = some y1 ∧ DataW.trod enc P w base spare held n f2.type ((cs.drop f2.offset).take (P.cellsOf f2.type)) = some y2 ∧
      DataW.trod enc P w base spare held n f3.type ((cs.drop f3.offset).take (P.cellsOf f3.type)) = some y3 ∧ DataW.trod enc P w base spare held n f4.type ((cs.drop f4.offset).take (P.cellsOf f4.type)) = some y4 := by
  obtain ⟨xs, n, _, rfl, hl, hlen, hf⟩ := DataW.trod_struct ht h
  match xs, hlen with
  | [y0, y1, y2, y3, y4], _ => exact ⟨y0, y1, y2, y3, y4, n, by simp, hl, by simpa using hf 0 f0 rfl, by simpa using hf 1 f1 rfl, by simpa using hf 2 f2 rfl, by simpa using hf 3 f3 rfl, by simpa using hf 4 f4 rfl⟩

set_option maxRecDepth 100000 in
theorem trod_act {fuel : Nat} {cs : List Value} {x : DataW H × List MemPlace} (h : DataW.trod enc Try.prog w base spare held fuel 52 cs = some x) : ∃ a : AC, cs = a.cells ∧ ACin a := by
  obtain ⟨y0, y1, y2, y3, y4, m, _, hl, h0, h1, h2, h3, h4⟩ := trod_struct5 Try.underlying52 h
  have hc : Try.prog.cellsOf 52 = 8 := by kernel_rfl
  rw [hc] at hl
  match cs, hl with
  | [c0, c1, c2, c3, c4, c5, c6, c7], _ =>
    have k1 : Try.prog.cellsOf 3 = 1 := by kernel_rfl
    have k2 : Try.prog.cellsOf 9 = 1 := by kernel_rfl
    have k3 : Try.prog.cellsOf 37 = 4 := by kernel_rfl
    obtain ⟨k, e0, _, _⟩ := DataW.trod_int (Try.underlying3) h0
    obtain ⟨s, e1, _, w1⟩ := DataW.trod_string (Try.underlying9) h1
    obtain ⟨a, e2, _, _⟩ := DataW.trod_int (Try.underlying3) h2
    obtain ⟨b, e3, _, _⟩ := DataW.trod_int (Try.underlying3) h3
    obtain ⟨n, e4, hn, _⟩ := trod_node h4
    simp only [k1, k2, k3] at e0 e1 e2 e3 e4
    simp at e0 e1 e2 e3
    refine ⟨⟨k, s, a, b, n⟩, ?_, ⟨w1, hn⟩⟩
    simp [ND.cells] at e4
    obtain ⟨e4, e5, e6, e7⟩ := e4
    subst e0 e1 e2 e3 e4 e5 e6 e7
    rfl

set_option maxRecDepth 100000 in
theorem open_acts {v : Value} {r : _root_.Go.Reach} {b0 : Nat} {d : DataW H} {p : List MemPlace} (hv : Value.okWide Try.prog w r b0 45 v) (h : DataW.Trod enc Try.prog w base spare held 45 v d p) :
    ∃ acts : List AC, Rd w v acts.length 8 (acts.flatMap AC.cells) ∧ acts.length ≤ maxLen ∧ ∀ n ∈ acts, ACin n := by
  obtain ⟨acts, h1, h2, h3, _⟩ := open_rows (te := 52) AC.cells ACin 8 (by decide) (fun _ => rfl) (by kernel_rfl) Try.underlying45 (fun _ _ _ h => trod_act h) hv h
  exact ⟨acts, h1, h2, h3⟩
end
end Go.Dk
