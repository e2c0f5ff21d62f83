/-
  DERIVED. GIVEN WITH THE SEED: THE CARDS: each row of YthhokkfcdbcllaaDoorRows.lean that lists a variable, with what it lists TIED to the program's text (the seventh form; the later family's looks); each row that meets fmt, with fmt's text TOLD by the authors' own Lean function (tested against real Go, not proved from fmt's source: count such statements apart). THE CARD IS WHAT COUNTS. Prove the row's statement (the work); the ties are given (YthhokkfcdbcllaaDoorTie.lean); close each card by the builder's one call (the guide's Derived/Test/ToyasCard.lean, 'card_holds'). Laid BY PROGRAM, IN A SANDBOX (cutbox-door.mjs). By AI agents, Wed Nov 11 2026. No macro, syntax, notation, axiom, sorry.
-/
import Derived.Test.YthhokkfcdbcllaaDoorRows
import GoSem.ClaimSeven
namespace Go.Proofs.YthhokkfcdbcllaaDoor
namespace Rows

/-- THE TIED CARD OF 'dictumlaw27.HarropNobody'. -/
def harropNobodyCard : Claim7 := { stood := { row := harropNobodyRow, standIns := [], harness := (true, "db7738a562b9b4c922baae9f7a46463c42869615f8dc39fefbe050662f0cc925"), looks := false }, kinds := [], alts := [], laidByText := true, laidKinds := [.data], laidTests := true, laidLooks := .later }
def HarropNobodyCardSaid : Prop := Claim7.holds Tryd.pinned (.plain (OpenSpec.ofChange harropNobodySpec)) harropNobodyCard

/-- THE SECOND FORM's CARD OF 'dictumlaw27.HarropNobody'. -/
def harropNobodyUptoCard : Claim7 := { stood := { row := harropNobodyUptoRow, standIns := [], harness := (true, "db7738a562b9b4c922baae9f7a46463c42869615f8dc39fefbe050662f0cc925"), looks := false }, kinds := [], alts := [], laidByText := true, laidKinds := [.data], laidTests := true, laidLooks := .later }
def HarropNobodyUptoCardSaid : Prop := Claim7.holds Tryd.pinned (.plain (OpenSpec.upto harropNobodySpec)) harropNobodyUptoCard
end Rows
end Go.Proofs.YthhokkfcdbcllaaDoor
