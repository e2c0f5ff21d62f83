/-
  No cell of these rows narrows 'for every input' (looked for: loops, veiled, ifaces, maps, wideKeys, modest, calm, conditions, laid).
  DERIVED. THE GIVEN ROWS OF THIS SEAT. 4 by the template 'for every input the law returns true; each argument reads behind the call as it read before'; 0 by the template 'total and deterministic' (their statements: YtmlohibhoibgkaaTotals.lean).
  GIVEN WITH THE SEED: the statements are not yours to turn. If you find one false, say at which input.
  Laid BY PROGRAM, IN A SANDBOX (cutbox-rows.mjs): the forced cells as the released guide's own fill.sh prints them over the translation 0505320655446eb4… (all of the seat's roots in one cut). By AI agents, Wed Nov 11 2026. No macro, syntax, notation, axiom, sorry.
-/
import Derived.Test.YtmlohibhoibgkaaChecked
import GoSem.Claim
import GoSem.ClaimJoined
import GoSem.ClaimMapViews
import Derived.JoinedTies
import Derived.KernelRfl
namespace Go.Proofs.Ytmlohibhoibgkaa
/- THE CELL 'sum', in the pinned program and in every row, IS THE sha256 OF THE DUMP (.gsa) THAT YtmlohibhoibgkaaProg.lean LOADS. Nothing in Lean hashes anything: it is a label: what it is worth is what the hold of that sum in a sandbox is worth. -/
noncomputable def Try.pinned : Pinned := { name := "ytmlohibhoibgkaa", sum := "0505320655446eb4c2d5de786e393c394d67ad5c893a67e2d1e0d9c4abfd13c7", checked := Try.checked }
namespace Rows
def none {H : Type} : Left H := { results := [], args := [] }

/-- 'dictumlaw07.SubstBack': WHATEVER THE INPUT: true; the input reads as it did. -/
def substBackSpec : ChangeSpec := { name := "substBack", fn := fun _ => fun
  | [d1, d2, d3] => { results := [.lit (.bool true)], args := [d1, d2, d3] }
  | _ => none }
def substBackRow : OpenClaim := { program := "ytmlohibhoibgkaa", sum := "0505320655446eb4c2d5de786e393c394d67ad5c893a67e2d1e0d9c4abfd13c7", func := "dictum/dictumlaw07.SubstBack", spec := "substBack", unfollowed := true, recurses := true, plainKeys := false, apart := false }
def SubstBackSaid : Prop := substBackRow.holds Try.pinned (OpenSpec.ofChange substBackSpec)

/-- ITS FALSE NEIGHBOUR: 'it returns false'. Refute it at one input. -/
def substBackWrong : ChangeSpec := { name := "substBack", fn := fun _ => fun
  | [d1, d2, d3] => { results := [.lit (.bool false)], args := [d1, d2, d3] }
  | _ => none }
def SubstBackWrongFalsely : Prop := substBackRow.holds Try.pinned (OpenSpec.ofChange substBackWrong)

/-- 'dictumlaw07.SubstMatches': WHATEVER THE INPUT: true; the input reads as it did. -/
def substMatchesSpec : ChangeSpec := { name := "substMatches", fn := fun _ => fun
  | [d1, d2, d3] => { results := [.lit (.bool true)], args := [d1, d2, d3] }
  | _ => none }
def substMatchesRow : OpenClaim := { program := "ytmlohibhoibgkaa", sum := "0505320655446eb4c2d5de786e393c394d67ad5c893a67e2d1e0d9c4abfd13c7", func := "dictum/dictumlaw07.SubstMatches", spec := "substMatches", unfollowed := true, recurses := true, plainKeys := false, apart := false }
def SubstMatchesSaid : Prop := substMatchesRow.holds Try.pinned (OpenSpec.ofChange substMatchesSpec)

/-- ITS FALSE NEIGHBOUR: 'it returns false'. Refute it at one input. -/
def substMatchesWrong : ChangeSpec := { name := "substMatches", fn := fun _ => fun
  | [d1, d2, d3] => { results := [.lit (.bool false)], args := [d1, d2, d3] }
  | _ => none }
def SubstMatchesWrongFalsely : Prop := substMatchesRow.holds Try.pinned (OpenSpec.ofChange substMatchesWrong)

/-- 'dictumlaw07.SubstSimple': WHATEVER THE INPUT: true; the input reads as it did. -/
def substSimpleSpec : ChangeSpec := { name := "substSimple", fn := fun _ => fun
  | [d1, d2] => { results := [.lit (.bool true)], args := [d1, d2] }
  | _ => none }
def substSimpleRow : OpenClaim := { program := "ytmlohibhoibgkaa", sum := "0505320655446eb4c2d5de786e393c394d67ad5c893a67e2d1e0d9c4abfd13c7", func := "dictum/dictumlaw07.SubstSimple", spec := "substSimple", unfollowed := true, recurses := true, plainKeys := false, apart := false }
def SubstSimpleSaid : Prop := substSimpleRow.holds Try.pinned (OpenSpec.ofChange substSimpleSpec)

/-- ITS FALSE NEIGHBOUR: 'it returns false'. Refute it at one input. -/
def substSimpleWrong : ChangeSpec := { name := "substSimple", fn := fun _ => fun
  | [d1, d2] => { results := [.lit (.bool false)], args := [d1, d2] }
  | _ => none }
def SubstSimpleWrongFalsely : Prop := substSimpleRow.holds Try.pinned (OpenSpec.ofChange substSimpleWrong)

/-- 'dictumlaw07.SubstPuts': WHATEVER THE INPUT: true; the input reads as it did. -/
def substPutsSpec : ChangeSpec := { name := "substPuts", fn := fun _ => fun
  | [d1, d2, d3, d4, d5] => { results := [.lit (.bool true)], args := [d1, d2, d3, d4, d5] }
  | _ => none }
def substPutsRow : OpenClaim := { program := "ytmlohibhoibgkaa", sum := "0505320655446eb4c2d5de786e393c394d67ad5c893a67e2d1e0d9c4abfd13c7", func := "dictum/dictumlaw07.SubstPuts", spec := "substPuts", unfollowed := true, recurses := true, plainKeys := false, apart := false }
def SubstPutsSaid : Prop := substPutsRow.holds Try.pinned (OpenSpec.ofChange substPutsSpec)

/-- ITS FALSE NEIGHBOUR: 'it returns false'. Refute it at one input. -/
def substPutsWrong : ChangeSpec := { name := "substPuts", fn := fun _ => fun
  | [d1, d2, d3, d4, d5] => { results := [.lit (.bool false)], args := [d1, d2, d3, d4, d5] }
  | _ => none }
def SubstPutsWrongFalsely : Prop := substPutsRow.holds Try.pinned (OpenSpec.ofChange substPutsWrong)

/- THE SECOND FORM. 'bulk': how many values and letters a reading holds, each counted each time it is reached (what is shared counts as often as it is met; a slice's spare places count too). A statement '..UptoSaid' is the law's where the arguments, and the package variables that the reading takes, are together of bulk at most 1048576: NARROWER than '..Said'. Prove '..Said' where nothing that the law and all that it calls make is longer than what came in: it says more and counts as full. Else prove '..UptoSaid'. A law counts once. -/
mutual
def uptoBulk {H : Type} : DataW H → Nat
  | .lit (.string bytes) => bytes.length + 1
  | .lit _ => 1
  | .nil => 1
  | .ptr d => uptoBulk d + 1
  | .slice elems spare => uptoBulkAll elems + uptoBulkAll spare + 1
  | .agg parts => uptoBulkAll parts + 1
  | .iface _ d => uptoBulk d + 1
  | .map entries => uptoBulkEntries entries + 1
  | .held _ => 1
def uptoBulkAll {H : Type} : List (DataW H) → Nat
  | [] => 0
  | d :: r => uptoBulk d + uptoBulkAll r
def uptoBulkEntries {H : Type} : List (Lit × DataW H) → Nat
  | [] => 0
  | x :: r => uptoBulkEntry x + uptoBulkEntries r
def uptoBulkEntry {H : Type} : Lit × DataW H → Nat
  | (.string bytes, d) => bytes.length + uptoBulk d + 1
  | (_, d) => uptoBulk d + 1
 end
def uptoSmall : (H : Type) → List (DataW H) → Bool := fun _ ds => decide (uptoBulkAll ds ≤ 1048576)
def OpenSpec.upto (s : _root_.Go.ChangeSpec) : _root_.Go.OpenSpec := { _root_.Go.OpenSpec.ofChange s with cond := some uptoSmall }

/-- 'dictumlaw07.SubstBack', WHERE WHAT IT READS IS OF BULK AT MOST 1048576: true; the input reads as it did. -/
def substBackUptoRow : OpenClaim := { program := "ytmlohibhoibgkaa", sum := "0505320655446eb4c2d5de786e393c394d67ad5c893a67e2d1e0d9c4abfd13c7", func := "dictum/dictumlaw07.SubstBack", spec := "substBack", unfollowed := true, recurses := true, plainKeys := false, apart := false, narrowed := true }
def SubstBackUptoSaid : Prop := substBackUptoRow.holds Try.pinned (OpenSpec.upto substBackSpec)

/-- 'dictumlaw07.SubstMatches', WHERE WHAT IT READS IS OF BULK AT MOST 1048576: true; the input reads as it did. -/
def substMatchesUptoRow : OpenClaim := { program := "ytmlohibhoibgkaa", sum := "0505320655446eb4c2d5de786e393c394d67ad5c893a67e2d1e0d9c4abfd13c7", func := "dictum/dictumlaw07.SubstMatches", spec := "substMatches", unfollowed := true, recurses := true, plainKeys := false, apart := false, narrowed := true }
def SubstMatchesUptoSaid : Prop := substMatchesUptoRow.holds Try.pinned (OpenSpec.upto substMatchesSpec)

/-- 'dictumlaw07.SubstSimple', WHERE WHAT IT READS IS OF BULK AT MOST 1048576: true; the input reads as it did. -/
def substSimpleUptoRow : OpenClaim := { program := "ytmlohibhoibgkaa", sum := "0505320655446eb4c2d5de786e393c394d67ad5c893a67e2d1e0d9c4abfd13c7", func := "dictum/dictumlaw07.SubstSimple", spec := "substSimple", unfollowed := true, recurses := true, plainKeys := false, apart := false, narrowed := true }
def SubstSimpleUptoSaid : Prop := substSimpleUptoRow.holds Try.pinned (OpenSpec.upto substSimpleSpec)

/-- 'dictumlaw07.SubstPuts', WHERE WHAT IT READS IS OF BULK AT MOST 1048576: true; the input reads as it did. -/
def substPutsUptoRow : OpenClaim := { program := "ytmlohibhoibgkaa", sum := "0505320655446eb4c2d5de786e393c394d67ad5c893a67e2d1e0d9c4abfd13c7", func := "dictum/dictumlaw07.SubstPuts", spec := "substPuts", unfollowed := true, recurses := true, plainKeys := false, apart := false, narrowed := true }
def SubstPutsUptoSaid : Prop := substPutsUptoRow.holds Try.pinned (OpenSpec.upto substPutsSpec)

end Rows
end Go.Proofs.Ytmlohibhoibgkaa
