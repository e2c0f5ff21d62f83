/-
  No cell of these rows narrows 'for every input' (looked for: loops, veiled, ifaces, maps, wideKeys, modest, calm, conditions, laid).
  DERIVED. THE GIVEN ROWS OF THIS SEAT. 15 by the template 'for every input the law returns true; each argument reads behind the call as it read before'; 0 by the template 'total and deterministic' (their statements: YthbjmmnfoeanbaaTotals.lean).
  GIVEN WITH THE SEED: the statements are not yours to turn. If you find one false, say at which input.
  Laid BY PROGRAM, IN A SANDBOX (cutbox-rows.mjs): the forced cells as the released guide's own fill.sh prints them over the translation 5a2186522754b6da… (all of the seat's roots in one cut). By AI agents, Wed Nov 11 2026. No macro, syntax, notation, axiom, sorry.
-/
import Derived.Test.YthbjmmnfoeanbaaChecked
import GoSem.Claim
import GoSem.ClaimJoined
import GoSem.ClaimMapViews
import Derived.JoinedTies
import Derived.KernelRfl
namespace Go.Proofs.Ythbjmmnfoeanbaa
/- THE CELL 'sum', in the pinned program and in every row, IS THE sha256 OF THE DUMP (.gsa) THAT YthbjmmnfoeanbaaProg.lean LOADS. Nothing in Lean hashes anything: it is a label: what it is worth is what the hold of that sum in a sandbox is worth. -/
noncomputable def Try.pinned : Pinned := { name := "ythbjmmnfoeanbaa", sum := "5a2186522754b6dae3c338e2dd58bfffdecfec16458266d0796572424cc45b95", checked := Try.checked }
namespace Rows
def none {H : Type} : Left H := { results := [], args := [] }

/-- 'dictumlaw03.FormulaWords': WHATEVER THE INPUT: true; the input reads as it did. -/
def formulaWordsSpec : ChangeSpec := { name := "formulaWords", fn := fun _ => fun
  | [d] => { results := [.lit (.bool true)], args := [d] }
  | _ => none }
def formulaWordsRow : OpenClaim := { program := "ythbjmmnfoeanbaa", sum := "5a2186522754b6dae3c338e2dd58bfffdecfec16458266d0796572424cc45b95", func := "dictum/dictumlaw03.FormulaWords", spec := "formulaWords", unfollowed := true, recurses := true, plainKeys := false, apart := false }
def FormulaWordsSaid : Prop := formulaWordsRow.holds Try.pinned (OpenSpec.ofChange formulaWordsSpec)

/-- ITS FALSE NEIGHBOUR: 'it returns false'. Refute it at one input. -/
def formulaWordsWrong : ChangeSpec := { name := "formulaWords", fn := fun _ => fun
  | [d] => { results := [.lit (.bool false)], args := [d] }
  | _ => none }
def FormulaWordsWrongFalsely : Prop := formulaWordsRow.holds Try.pinned (OpenSpec.ofChange formulaWordsWrong)

/-- 'dictumlaw03.FormulaFrom': WHATEVER THE INPUT: true; the input reads as it did. -/
def formulaFromSpec : ChangeSpec := { name := "formulaFrom", fn := fun _ => fun
  | [d] => { results := [.lit (.bool true)], args := [d] }
  | _ => none }
def formulaFromRow : OpenClaim := { program := "ythbjmmnfoeanbaa", sum := "5a2186522754b6dae3c338e2dd58bfffdecfec16458266d0796572424cc45b95", func := "dictum/dictumlaw03.FormulaFrom", spec := "formulaFrom", unfollowed := true, recurses := true, plainKeys := false, apart := false }
def FormulaFromSaid : Prop := formulaFromRow.holds Try.pinned (OpenSpec.ofChange formulaFromSpec)

/-- ITS FALSE NEIGHBOUR: 'it returns false'. Refute it at one input. -/
def formulaFromWrong : ChangeSpec := { name := "formulaFrom", fn := fun _ => fun
  | [d] => { results := [.lit (.bool false)], args := [d] }
  | _ => none }
def FormulaFromWrongFalsely : Prop := formulaFromRow.holds Try.pinned (OpenSpec.ofChange formulaFromWrong)

/-- 'dictumlaw03.FormulaNobody': WHATEVER THE INPUT: true; the input reads as it did. -/
def formulaNobodySpec : ChangeSpec := { name := "formulaNobody", fn := fun _ => fun
  | [d1, d2] => { results := [.lit (.bool true)], args := [d1, d2] }
  | _ => none }
def formulaNobodyRow : OpenClaim := { program := "ythbjmmnfoeanbaa", sum := "5a2186522754b6dae3c338e2dd58bfffdecfec16458266d0796572424cc45b95", func := "dictum/dictumlaw03.FormulaNobody", spec := "formulaNobody", unfollowed := true, recurses := true, plainKeys := false, apart := false }
def FormulaNobodySaid : Prop := formulaNobodyRow.holds Try.pinned (OpenSpec.ofChange formulaNobodySpec)

/-- ITS FALSE NEIGHBOUR: 'it returns false'. Refute it at one input. -/
def formulaNobodyWrong : ChangeSpec := { name := "formulaNobody", fn := fun _ => fun
  | [d1, d2] => { results := [.lit (.bool false)], args := [d1, d2] }
  | _ => none }
def FormulaNobodyWrongFalsely : Prop := formulaNobodyRow.holds Try.pinned (OpenSpec.ofChange formulaNobodyWrong)

/-- 'dictumlaw03.FormulaOnce': WHATEVER THE INPUT: true; the input reads as it did. -/
def formulaOnceSpec : ChangeSpec := { name := "formulaOnce", fn := fun _ => fun
  | [d1, d2] => { results := [.lit (.bool true)], args := [d1, d2] }
  | _ => none }
def formulaOnceRow : OpenClaim := { program := "ythbjmmnfoeanbaa", sum := "5a2186522754b6dae3c338e2dd58bfffdecfec16458266d0796572424cc45b95", func := "dictum/dictumlaw03.FormulaOnce", spec := "formulaOnce", unfollowed := true, recurses := true, plainKeys := false, apart := false }
def FormulaOnceSaid : Prop := formulaOnceRow.holds Try.pinned (OpenSpec.ofChange formulaOnceSpec)

/-- ITS FALSE NEIGHBOUR: 'it returns false'. Refute it at one input. -/
def formulaOnceWrong : ChangeSpec := { name := "formulaOnce", fn := fun _ => fun
  | [d1, d2] => { results := [.lit (.bool false)], args := [d1, d2] }
  | _ => none }
def FormulaOnceWrongFalsely : Prop := formulaOnceRow.holds Try.pinned (OpenSpec.ofChange formulaOnceWrong)

/-- 'dictumlaw03.FormulaPlays': WHATEVER THE INPUT: true; the input reads as it did. -/
def formulaPlaysSpec : ChangeSpec := { name := "formulaPlays", fn := fun _ => fun
  | [d1, d2] => { results := [.lit (.bool true)], args := [d1, d2] }
  | _ => none }
def formulaPlaysRow : OpenClaim := { program := "ythbjmmnfoeanbaa", sum := "5a2186522754b6dae3c338e2dd58bfffdecfec16458266d0796572424cc45b95", func := "dictum/dictumlaw03.FormulaPlays", spec := "formulaPlays", unfollowed := true, recurses := true, plainKeys := false, apart := false }
def FormulaPlaysSaid : Prop := formulaPlaysRow.holds Try.pinned (OpenSpec.ofChange formulaPlaysSpec)

/-- ITS FALSE NEIGHBOUR: 'it returns false'. Refute it at one input. -/
def formulaPlaysWrong : ChangeSpec := { name := "formulaPlays", fn := fun _ => fun
  | [d1, d2] => { results := [.lit (.bool false)], args := [d1, d2] }
  | _ => none }
def FormulaPlaysWrongFalsely : Prop := formulaPlaysRow.holds Try.pinned (OpenSpec.ofChange formulaPlaysWrong)

/-- 'dictumlaw06.MeasureOrder': WHATEVER THE INPUT: true; the input reads as it did. -/
def measureOrderSpec : ChangeSpec := { name := "measureOrder", fn := fun _ => fun
  | [d1, d2, d3] => { results := [.lit (.bool true)], args := [d1, d2, d3] }
  | _ => none }
def measureOrderRow : OpenClaim := { program := "ythbjmmnfoeanbaa", sum := "5a2186522754b6dae3c338e2dd58bfffdecfec16458266d0796572424cc45b95", func := "dictum/dictumlaw06.MeasureOrder", spec := "measureOrder", unfollowed := true, recurses := true, plainKeys := false, apart := false }
def MeasureOrderSaid : Prop := measureOrderRow.holds Try.pinned (OpenSpec.ofChange measureOrderSpec)

/-- ITS FALSE NEIGHBOUR: 'it returns false'. Refute it at one input. -/
def measureOrderWrong : ChangeSpec := { name := "measureOrder", fn := fun _ => fun
  | [d1, d2, d3] => { results := [.lit (.bool false)], args := [d1, d2, d3] }
  | _ => none }
def MeasureOrderWrongFalsely : Prop := measureOrderRow.holds Try.pinned (OpenSpec.ofChange measureOrderWrong)

/-- 'dictumlaw06.MeasureSums': WHATEVER THE INPUT: true; the input reads as it did. -/
def measureSumsSpec : ChangeSpec := { name := "measureSums", fn := fun _ => fun
  | [d1, d2] => { results := [.lit (.bool true)], args := [d1, d2] }
  | _ => none }
def measureSumsRow : OpenClaim := { program := "ythbjmmnfoeanbaa", sum := "5a2186522754b6dae3c338e2dd58bfffdecfec16458266d0796572424cc45b95", func := "dictum/dictumlaw06.MeasureSums", spec := "measureSums", unfollowed := true, recurses := true, plainKeys := false, apart := false }
def MeasureSumsSaid : Prop := measureSumsRow.holds Try.pinned (OpenSpec.ofChange measureSumsSpec)

/-- ITS FALSE NEIGHBOUR: 'it returns false'. Refute it at one input. -/
def measureSumsWrong : ChangeSpec := { name := "measureSums", fn := fun _ => fun
  | [d1, d2] => { results := [.lit (.bool false)], args := [d1, d2] }
  | _ => none }
def MeasureSumsWrongFalsely : Prop := measureSumsRow.holds Try.pinned (OpenSpec.ofChange measureSumsWrong)

/-- 'dictumlaw06.MeasureSigns': WHATEVER THE INPUT: true; the input reads as it did. -/
def measureSignsSpec : ChangeSpec := { name := "measureSigns", fn := fun _ => fun
  | [d1, d2, d3] => { results := [.lit (.bool true)], args := [d1, d2, d3] }
  | _ => none }
def measureSignsRow : OpenClaim := { program := "ythbjmmnfoeanbaa", sum := "5a2186522754b6dae3c338e2dd58bfffdecfec16458266d0796572424cc45b95", func := "dictum/dictumlaw06.MeasureSigns", spec := "measureSigns", unfollowed := true, recurses := true, plainKeys := false, apart := false }
def MeasureSignsSaid : Prop := measureSignsRow.holds Try.pinned (OpenSpec.ofChange measureSignsSpec)

/-- ITS FALSE NEIGHBOUR: 'it returns false'. Refute it at one input. -/
def measureSignsWrong : ChangeSpec := { name := "measureSigns", fn := fun _ => fun
  | [d1, d2, d3] => { results := [.lit (.bool false)], args := [d1, d2, d3] }
  | _ => none }
def MeasureSignsWrongFalsely : Prop := measureSignsRow.holds Try.pinned (OpenSpec.ofChange measureSignsWrong)

/-- 'dictumlaw07.SubstNobody': WHATEVER THE INPUT: true; the input reads as it did. -/
def substNobodySpec : ChangeSpec := { name := "substNobody", fn := fun _ => fun
  | [d1, d2] => { results := [.lit (.bool true)], args := [d1, d2] }
  | _ => none }
def substNobodyRow : OpenClaim := { program := "ythbjmmnfoeanbaa", sum := "5a2186522754b6dae3c338e2dd58bfffdecfec16458266d0796572424cc45b95", func := "dictum/dictumlaw07.SubstNobody", spec := "substNobody", unfollowed := true, recurses := true, plainKeys := false, apart := false }
def SubstNobodySaid : Prop := substNobodyRow.holds Try.pinned (OpenSpec.ofChange substNobodySpec)

/-- ITS FALSE NEIGHBOUR: 'it returns false'. Refute it at one input. -/
def substNobodyWrong : ChangeSpec := { name := "substNobody", fn := fun _ => fun
  | [d1, d2] => { results := [.lit (.bool false)], args := [d1, d2] }
  | _ => none }
def SubstNobodyWrongFalsely : Prop := substNobodyRow.holds Try.pinned (OpenSpec.ofChange substNobodyWrong)

/-- 'dictumlaw07.SubstBack': WHATEVER THE INPUT: true; the input reads as it did. -/
def substBackSpec : ChangeSpec := { name := "substBack", fn := fun _ => fun
  | [d1, d2, d3] => { results := [.lit (.bool true)], args := [d1, d2, d3] }
  | _ => none }
def substBackRow : OpenClaim := { program := "ythbjmmnfoeanbaa", sum := "5a2186522754b6dae3c338e2dd58bfffdecfec16458266d0796572424cc45b95", func := "dictum/dictumlaw07.SubstBack", spec := "substBack", unfollowed := true, recurses := true, plainKeys := false, apart := false }
def SubstBackSaid : Prop := substBackRow.holds Try.pinned (OpenSpec.ofChange substBackSpec)

/-- ITS FALSE NEIGHBOUR: 'it returns false'. Refute it at one input. -/
def substBackWrong : ChangeSpec := { name := "substBack", fn := fun _ => fun
  | [d1, d2, d3] => { results := [.lit (.bool false)], args := [d1, d2, d3] }
  | _ => none }
def SubstBackWrongFalsely : Prop := substBackRow.holds Try.pinned (OpenSpec.ofChange substBackWrong)

/-- 'dictumlaw07.SubstTwice': WHATEVER THE INPUT: true; the input reads as it did. -/
def substTwiceSpec : ChangeSpec := { name := "substTwice", fn := fun _ => fun
  | [d1, d2, d3, d4] => { results := [.lit (.bool true)], args := [d1, d2, d3, d4] }
  | _ => none }
def substTwiceRow : OpenClaim := { program := "ythbjmmnfoeanbaa", sum := "5a2186522754b6dae3c338e2dd58bfffdecfec16458266d0796572424cc45b95", func := "dictum/dictumlaw07.SubstTwice", spec := "substTwice", unfollowed := true, recurses := true, plainKeys := false, apart := false }
def SubstTwiceSaid : Prop := substTwiceRow.holds Try.pinned (OpenSpec.ofChange substTwiceSpec)

/-- ITS FALSE NEIGHBOUR: 'it returns false'. Refute it at one input. -/
def substTwiceWrong : ChangeSpec := { name := "substTwice", fn := fun _ => fun
  | [d1, d2, d3, d4] => { results := [.lit (.bool false)], args := [d1, d2, d3, d4] }
  | _ => none }
def SubstTwiceWrongFalsely : Prop := substTwiceRow.holds Try.pinned (OpenSpec.ofChange substTwiceWrong)

/-- 'dictumlaw07.SubstMatches': WHATEVER THE INPUT: true; the input reads as it did. -/
def substMatchesSpec : ChangeSpec := { name := "substMatches", fn := fun _ => fun
  | [d1, d2, d3] => { results := [.lit (.bool true)], args := [d1, d2, d3] }
  | _ => none }
def substMatchesRow : OpenClaim := { program := "ythbjmmnfoeanbaa", sum := "5a2186522754b6dae3c338e2dd58bfffdecfec16458266d0796572424cc45b95", func := "dictum/dictumlaw07.SubstMatches", spec := "substMatches", unfollowed := true, recurses := true, plainKeys := false, apart := false }
def SubstMatchesSaid : Prop := substMatchesRow.holds Try.pinned (OpenSpec.ofChange substMatchesSpec)

/-- ITS FALSE NEIGHBOUR: 'it returns false'. Refute it at one input. -/
def substMatchesWrong : ChangeSpec := { name := "substMatches", fn := fun _ => fun
  | [d1, d2, d3] => { results := [.lit (.bool false)], args := [d1, d2, d3] }
  | _ => none }
def SubstMatchesWrongFalsely : Prop := substMatchesRow.holds Try.pinned (OpenSpec.ofChange substMatchesWrong)

/-- 'dictumlaw07.SubstSimple': WHATEVER THE INPUT: true; the input reads as it did. -/
def substSimpleSpec : ChangeSpec := { name := "substSimple", fn := fun _ => fun
  | [d1, d2] => { results := [.lit (.bool true)], args := [d1, d2] }
  | _ => none }
def substSimpleRow : OpenClaim := { program := "ythbjmmnfoeanbaa", sum := "5a2186522754b6dae3c338e2dd58bfffdecfec16458266d0796572424cc45b95", func := "dictum/dictumlaw07.SubstSimple", spec := "substSimple", unfollowed := true, recurses := true, plainKeys := false, apart := false }
def SubstSimpleSaid : Prop := substSimpleRow.holds Try.pinned (OpenSpec.ofChange substSimpleSpec)

/-- ITS FALSE NEIGHBOUR: 'it returns false'. Refute it at one input. -/
def substSimpleWrong : ChangeSpec := { name := "substSimple", fn := fun _ => fun
  | [d1, d2] => { results := [.lit (.bool false)], args := [d1, d2] }
  | _ => none }
def SubstSimpleWrongFalsely : Prop := substSimpleRow.holds Try.pinned (OpenSpec.ofChange substSimpleWrong)

/-- 'dictumlaw07.SubstPuts': WHATEVER THE INPUT: true; the input reads as it did. -/
def substPutsSpec : ChangeSpec := { name := "substPuts", fn := fun _ => fun
  | [d1, d2, d3, d4, d5] => { results := [.lit (.bool true)], args := [d1, d2, d3, d4, d5] }
  | _ => none }
def substPutsRow : OpenClaim := { program := "ythbjmmnfoeanbaa", sum := "5a2186522754b6dae3c338e2dd58bfffdecfec16458266d0796572424cc45b95", func := "dictum/dictumlaw07.SubstPuts", spec := "substPuts", unfollowed := true, recurses := true, plainKeys := false, apart := false }
def SubstPutsSaid : Prop := substPutsRow.holds Try.pinned (OpenSpec.ofChange substPutsSpec)

/-- ITS FALSE NEIGHBOUR: 'it returns false'. Refute it at one input. -/
def substPutsWrong : ChangeSpec := { name := "substPuts", fn := fun _ => fun
  | [d1, d2, d3, d4, d5] => { results := [.lit (.bool false)], args := [d1, d2, d3, d4, d5] }
  | _ => none }
def SubstPutsWrongFalsely : Prop := substPutsRow.holds Try.pinned (OpenSpec.ofChange substPutsWrong)

/-- 'dictumlaw06.MeasureNobody': WHATEVER THE INPUT: true; the input reads as it did. -/
def measureNobodySpec : ChangeSpec := { name := "measureNobody", fn := fun _ => fun
  | [d1, d2] => { results := [.lit (.bool true)], args := [d1, d2] }
  | _ => none }
def measureNobodyRow : OpenClaim := { program := "ythbjmmnfoeanbaa", sum := "5a2186522754b6dae3c338e2dd58bfffdecfec16458266d0796572424cc45b95", func := "dictum/dictumlaw06.MeasureNobody", spec := "measureNobody", unfollowed := true, recurses := true, plainKeys := false, apart := false }
def MeasureNobodySaid : Prop := measureNobodyRow.holds Try.pinned (OpenSpec.ofChange measureNobodySpec)

/-- ITS FALSE NEIGHBOUR: 'it returns false'. Refute it at one input. -/
def measureNobodyWrong : ChangeSpec := { name := "measureNobody", fn := fun _ => fun
  | [d1, d2] => { results := [.lit (.bool false)], args := [d1, d2] }
  | _ => none }
def MeasureNobodyWrongFalsely : Prop := measureNobodyRow.holds Try.pinned (OpenSpec.ofChange measureNobodyWrong)

/- THE SECOND FORM. 'bulk': how many values and letters a reading holds, each counted each time it is reached (what is shared counts as often as it is met; a slice's spare places count too). A statement '..UptoSaid' is the law's where the arguments, and the package variables that the reading takes, are together of bulk at most 1048576: NARROWER than '..Said'. Prove '..Said' where nothing that the law and all that it calls make is longer than what came in: it says more and counts as full. Else prove '..UptoSaid'. A law counts once. -/
mutual
def uptoBulk {H : Type} : DataW H → Nat
  | .lit (.string bytes) => bytes.length + 1
  | .lit _ => 1
  | .nil => 1
  | .ptr d => uptoBulk d + 1
  | .slice elems spare => uptoBulkAll elems + uptoBulkAll spare + 1
  | .agg parts => uptoBulkAll parts + 1
  | .iface _ d => uptoBulk d + 1
  | .map entries => uptoBulkEntries entries + 1
  | .held _ => 1
def uptoBulkAll {H : Type} : List (DataW H) → Nat
  | [] => 0
  | d :: r => uptoBulk d + uptoBulkAll r
def uptoBulkEntries {H : Type} : List (Lit × DataW H) → Nat
  | [] => 0
  | x :: r => uptoBulkEntry x + uptoBulkEntries r
def uptoBulkEntry {H : Type} : Lit × DataW H → Nat
  | (.string bytes, d) => bytes.length + uptoBulk d + 1
  | (_, d) => uptoBulk d + 1
 end
def uptoSmall : (H : Type) → List (DataW H) → Bool := fun _ ds => decide (uptoBulkAll ds ≤ 1048576)
def OpenSpec.upto (s : _root_.Go.ChangeSpec) : _root_.Go.OpenSpec := { _root_.Go.OpenSpec.ofChange s with cond := some uptoSmall }

/-- 'dictumlaw03.FormulaWords', WHERE WHAT IT READS IS OF BULK AT MOST 1048576: true; the input reads as it did. -/
def formulaWordsUptoRow : OpenClaim := { program := "ythbjmmnfoeanbaa", sum := "5a2186522754b6dae3c338e2dd58bfffdecfec16458266d0796572424cc45b95", func := "dictum/dictumlaw03.FormulaWords", spec := "formulaWords", unfollowed := true, recurses := true, plainKeys := false, apart := false, narrowed := true }
def FormulaWordsUptoSaid : Prop := formulaWordsUptoRow.holds Try.pinned (OpenSpec.upto formulaWordsSpec)

/-- 'dictumlaw03.FormulaFrom', WHERE WHAT IT READS IS OF BULK AT MOST 1048576: true; the input reads as it did. -/
def formulaFromUptoRow : OpenClaim := { program := "ythbjmmnfoeanbaa", sum := "5a2186522754b6dae3c338e2dd58bfffdecfec16458266d0796572424cc45b95", func := "dictum/dictumlaw03.FormulaFrom", spec := "formulaFrom", unfollowed := true, recurses := true, plainKeys := false, apart := false, narrowed := true }
def FormulaFromUptoSaid : Prop := formulaFromUptoRow.holds Try.pinned (OpenSpec.upto formulaFromSpec)

/-- 'dictumlaw03.FormulaNobody', WHERE WHAT IT READS IS OF BULK AT MOST 1048576: true; the input reads as it did. -/
def formulaNobodyUptoRow : OpenClaim := { program := "ythbjmmnfoeanbaa", sum := "5a2186522754b6dae3c338e2dd58bfffdecfec16458266d0796572424cc45b95", func := "dictum/dictumlaw03.FormulaNobody", spec := "formulaNobody", unfollowed := true, recurses := true, plainKeys := false, apart := false, narrowed := true }
def FormulaNobodyUptoSaid : Prop := formulaNobodyUptoRow.holds Try.pinned (OpenSpec.upto formulaNobodySpec)

/-- 'dictumlaw03.FormulaOnce', WHERE WHAT IT READS IS OF BULK AT MOST 1048576: true; the input reads as it did. -/
def formulaOnceUptoRow : OpenClaim := { program := "ythbjmmnfoeanbaa", sum := "5a2186522754b6dae3c338e2dd58bfffdecfec16458266d0796572424cc45b95", func := "dictum/dictumlaw03.FormulaOnce", spec := "formulaOnce", unfollowed := true, recurses := true, plainKeys := false, apart := false, narrowed := true }
def FormulaOnceUptoSaid : Prop := formulaOnceUptoRow.holds Try.pinned (OpenSpec.upto formulaOnceSpec)

/-- 'dictumlaw03.FormulaPlays', WHERE WHAT IT READS IS OF BULK AT MOST 1048576: true; the input reads as it did. -/
def formulaPlaysUptoRow : OpenClaim := { program := "ythbjmmnfoeanbaa", sum := "5a2186522754b6dae3c338e2dd58bfffdecfec16458266d0796572424cc45b95", func := "dictum/dictumlaw03.FormulaPlays", spec := "formulaPlays", unfollowed := true, recurses := true, plainKeys := false, apart := false, narrowed := true }
def FormulaPlaysUptoSaid : Prop := formulaPlaysUptoRow.holds Try.pinned (OpenSpec.upto formulaPlaysSpec)

/-- 'dictumlaw06.MeasureOrder', WHERE WHAT IT READS IS OF BULK AT MOST 1048576: true; the input reads as it did. -/
def measureOrderUptoRow : OpenClaim := { program := "ythbjmmnfoeanbaa", sum := "5a2186522754b6dae3c338e2dd58bfffdecfec16458266d0796572424cc45b95", func := "dictum/dictumlaw06.MeasureOrder", spec := "measureOrder", unfollowed := true, recurses := true, plainKeys := false, apart := false, narrowed := true }
def MeasureOrderUptoSaid : Prop := measureOrderUptoRow.holds Try.pinned (OpenSpec.upto measureOrderSpec)

/-- 'dictumlaw06.MeasureSums', WHERE WHAT IT READS IS OF BULK AT MOST 1048576: true; the input reads as it did. -/
def measureSumsUptoRow : OpenClaim := { program := "ythbjmmnfoeanbaa", sum := "5a2186522754b6dae3c338e2dd58bfffdecfec16458266d0796572424cc45b95", func := "dictum/dictumlaw06.MeasureSums", spec := "measureSums", unfollowed := true, recurses := true, plainKeys := false, apart := false, narrowed := true }
def MeasureSumsUptoSaid : Prop := measureSumsUptoRow.holds Try.pinned (OpenSpec.upto measureSumsSpec)

/-- 'dictumlaw06.MeasureSigns', WHERE WHAT IT READS IS OF BULK AT MOST 1048576: true; the input reads as it did. -/
def measureSignsUptoRow : OpenClaim := { program := "ythbjmmnfoeanbaa", sum := "5a2186522754b6dae3c338e2dd58bfffdecfec16458266d0796572424cc45b95", func := "dictum/dictumlaw06.MeasureSigns", spec := "measureSigns", unfollowed := true, recurses := true, plainKeys := false, apart := false, narrowed := true }
def MeasureSignsUptoSaid : Prop := measureSignsUptoRow.holds Try.pinned (OpenSpec.upto measureSignsSpec)

/-- 'dictumlaw07.SubstNobody', WHERE WHAT IT READS IS OF BULK AT MOST 1048576: true; the input reads as it did. -/
def substNobodyUptoRow : OpenClaim := { program := "ythbjmmnfoeanbaa", sum := "5a2186522754b6dae3c338e2dd58bfffdecfec16458266d0796572424cc45b95", func := "dictum/dictumlaw07.SubstNobody", spec := "substNobody", unfollowed := true, recurses := true, plainKeys := false, apart := false, narrowed := true }
def SubstNobodyUptoSaid : Prop := substNobodyUptoRow.holds Try.pinned (OpenSpec.upto substNobodySpec)

/-- 'dictumlaw07.SubstBack', WHERE WHAT IT READS IS OF BULK AT MOST 1048576: true; the input reads as it did. -/
def substBackUptoRow : OpenClaim := { program := "ythbjmmnfoeanbaa", sum := "5a2186522754b6dae3c338e2dd58bfffdecfec16458266d0796572424cc45b95", func := "dictum/dictumlaw07.SubstBack", spec := "substBack", unfollowed := true, recurses := true, plainKeys := false, apart := false, narrowed := true }
def SubstBackUptoSaid : Prop := substBackUptoRow.holds Try.pinned (OpenSpec.upto substBackSpec)

/-- 'dictumlaw07.SubstTwice', WHERE WHAT IT READS IS OF BULK AT MOST 1048576: true; the input reads as it did. -/
def substTwiceUptoRow : OpenClaim := { program := "ythbjmmnfoeanbaa", sum := "5a2186522754b6dae3c338e2dd58bfffdecfec16458266d0796572424cc45b95", func := "dictum/dictumlaw07.SubstTwice", spec := "substTwice", unfollowed := true, recurses := true, plainKeys := false, apart := false, narrowed := true }
def SubstTwiceUptoSaid : Prop := substTwiceUptoRow.holds Try.pinned (OpenSpec.upto substTwiceSpec)

/-- 'dictumlaw07.SubstMatches', WHERE WHAT IT READS IS OF BULK AT MOST 1048576: true; the input reads as it did. -/
def substMatchesUptoRow : OpenClaim := { program := "ythbjmmnfoeanbaa", sum := "5a2186522754b6dae3c338e2dd58bfffdecfec16458266d0796572424cc45b95", func := "dictum/dictumlaw07.SubstMatches", spec := "substMatches", unfollowed := true, recurses := true, plainKeys := false, apart := false, narrowed := true }
def SubstMatchesUptoSaid : Prop := substMatchesUptoRow.holds Try.pinned (OpenSpec.upto substMatchesSpec)

/-- 'dictumlaw07.SubstSimple', WHERE WHAT IT READS IS OF BULK AT MOST 1048576: true; the input reads as it did. -/
def substSimpleUptoRow : OpenClaim := { program := "ythbjmmnfoeanbaa", sum := "5a2186522754b6dae3c338e2dd58bfffdecfec16458266d0796572424cc45b95", func := "dictum/dictumlaw07.SubstSimple", spec := "substSimple", unfollowed := true, recurses := true, plainKeys := false, apart := false, narrowed := true }
def SubstSimpleUptoSaid : Prop := substSimpleUptoRow.holds Try.pinned (OpenSpec.upto substSimpleSpec)

/-- 'dictumlaw07.SubstPuts', WHERE WHAT IT READS IS OF BULK AT MOST 1048576: true; the input reads as it did. -/
def substPutsUptoRow : OpenClaim := { program := "ythbjmmnfoeanbaa", sum := "5a2186522754b6dae3c338e2dd58bfffdecfec16458266d0796572424cc45b95", func := "dictum/dictumlaw07.SubstPuts", spec := "substPuts", unfollowed := true, recurses := true, plainKeys := false, apart := false, narrowed := true }
def SubstPutsUptoSaid : Prop := substPutsUptoRow.holds Try.pinned (OpenSpec.upto substPutsSpec)

/-- 'dictumlaw06.MeasureNobody', WHERE WHAT IT READS IS OF BULK AT MOST 1048576: true; the input reads as it did. -/
def measureNobodyUptoRow : OpenClaim := { program := "ythbjmmnfoeanbaa", sum := "5a2186522754b6dae3c338e2dd58bfffdecfec16458266d0796572424cc45b95", func := "dictum/dictumlaw06.MeasureNobody", spec := "measureNobody", unfollowed := true, recurses := true, plainKeys := false, apart := false, narrowed := true }
def MeasureNobodyUptoSaid : Prop := measureNobodyUptoRow.holds Try.pinned (OpenSpec.upto measureNobodySpec)

end Rows
end Go.Proofs.Ythbjmmnfoeanbaa
