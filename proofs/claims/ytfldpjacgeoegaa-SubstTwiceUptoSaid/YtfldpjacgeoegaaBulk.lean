/- What the bound on the bulk gives: lengths. -/
import Derived.Test.YtfldpjacgeoegaaRows
import Derived.Test.YtfldpjacgeoegaaM
namespace Go.Dk
open Go.RowKit Go.Maps Go.MapKept Go.ChangeShapes Go.WideShapes Go.Deep
open Go.Proofs hiding intOf

theorem bulk_one {H : Type} (d : DataW H) : 1 ≤ Go.Proofs.Ytfldpjacgeoegaa.Rows.uptoBulk d := by
  cases d with
  | lit l => cases l <;> simp [Go.Proofs.Ytfldpjacgeoegaa.Rows.uptoBulk]
  | nil => simp [Go.Proofs.Ytfldpjacgeoegaa.Rows.uptoBulk]
  | ptr d => simp [Go.Proofs.Ytfldpjacgeoegaa.Rows.uptoBulk]
  | slice elems spare => simp [Go.Proofs.Ytfldpjacgeoegaa.Rows.uptoBulk]
  | agg parts => simp [Go.Proofs.Ytfldpjacgeoegaa.Rows.uptoBulk]
  | iface t d => simp [Go.Proofs.Ytfldpjacgeoegaa.Rows.uptoBulk]
  | map entries => simp [Go.Proofs.Ytfldpjacgeoegaa.Rows.uptoBulk]
  | held h => simp [Go.Proofs.Ytfldpjacgeoegaa.Rows.uptoBulk]
theorem bulk_length {H : Type} (l : List (DataW H)) : l.length ≤ Go.Proofs.Ytfldpjacgeoegaa.Rows.uptoBulkAll l := by
  induction l with
  | nil => simp [Go.Proofs.Ytfldpjacgeoegaa.Rows.uptoBulkAll]
  | cons x r ih => have := bulk_one x; simp only [Go.Proofs.Ytfldpjacgeoegaa.Rows.uptoBulkAll, List.length_cons]; omega
theorem bulk_slice {H : Type} {enc : TypeId × Value → H} {P : Program} {w w' : World} {base : Nat} {spare : Nat → Bool} {held : Bool} {ts te : TypeId} {v : Value} {d : DataW H} {p : List MemPlace} {n size : Nat} {xs : List Value} (ht : P.underlying ts = some (.slice te))
    (h : DataW.Trod enc P w base spare held ts v d p) (hr : Rd w' v n size xs) : n ≤ Go.Proofs.Ytfldpjacgeoegaa.Rows.uptoBulk d := by
  obtain ⟨a, c, rfl⟩ := hr.slice
  obtain ⟨fuel, hf⟩ := h
  rcases open_slice ht hf with ⟨hcs, _⟩ | ⟨x, l, c', m, k, D, Pl, hcs, _, hl, hm, hmm, hx, hi⟩
  · simp [Value.cells] at hcs
    omega
  · simp [Value.cells] at hcs
    obtain ⟨_, rfl, _⟩ := hcs
    rw [(Prod.mk.inj hx).1]
    have := bulk_length ((List.range n).map D)
    simp only [List.length_map, List.length_range] at this
    simp only [Go.Proofs.Ytfldpjacgeoegaa.Rows.uptoBulk]
    omega

end Go.Dk

