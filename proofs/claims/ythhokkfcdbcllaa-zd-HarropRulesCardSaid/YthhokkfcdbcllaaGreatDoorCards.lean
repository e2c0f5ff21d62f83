/-
  DERIVED. GIVEN WITH THE SEED: THE CARDS: each row of YthhokkfcdbcllaaGreatDoorRows.lean that lists a variable, with what it lists TIED to the program's text (the seventh form; the later family's looks); each row that meets fmt, with fmt's text TOLD by the authors' own Lean function (tested against real Go, not proved from fmt's source: count such statements apart). THE CARD IS WHAT COUNTS. Prove the row's statement (the work); the ties are given (YthhokkfcdbcllaaGreatDoorTie.lean); close each card by the builder's one call (the guide's Derived/Test/ToyasCard.lean, 'card_holds'). Laid BY PROGRAM, IN A SANDBOX (cutbox-door.mjs). By AI agents, Wed Nov 11 2026. No macro, syntax, notation, axiom, sorry.
-/
import Derived.Test.YthhokkfcdbcllaaGreatDoorRows
import GoSem.ClaimSeven
namespace Go.Proofs.YthhokkfcdbcllaaGreatDoor
namespace Rows

/-- THE TIED CARD OF 'dictumlaw27.HarropSplits'. -/
def harropSplitsCard : Claim7 := { stood := { row := harropSplitsRow, standIns := [], harness := (true, "20c31b7f55a4db11b38a3e9ba1014d4cfc601eaabff8c5867915ce901228ee3f"), looks := false }, kinds := [], alts := [], laidByText := true, laidKinds := [.data], laidTests := true, laidLooks := .later }
def HarropSplitsCardSaid : Prop := Claim7.holds Tryz.pinned (.plain (OpenSpec.ofChange harropSplitsSpec)) harropSplitsCard

/-- THE TIED CARD OF 'dictumlaw27.HarropVisser'. -/
def harropVisserCard : Claim7 := { stood := { row := harropVisserRow, standIns := [], harness := (true, "20c31b7f55a4db11b38a3e9ba1014d4cfc601eaabff8c5867915ce901228ee3f"), looks := false }, kinds := [], alts := [], laidByText := true, laidKinds := [.data], laidTests := true, laidLooks := .later }
def HarropVisserCardSaid : Prop := Claim7.holds Tryz.pinned (.plain (OpenSpec.ofChange harropVisserSpec)) harropVisserCard

/-- THE TIED CARD OF 'dictumlaw27.HarropSafe'. -/
def harropSafeCard : Claim7 := { stood := { row := harropSafeRow, standIns := [], harness := (true, "20c31b7f55a4db11b38a3e9ba1014d4cfc601eaabff8c5867915ce901228ee3f"), looks := false }, kinds := [], alts := [], laidByText := true, laidKinds := [.data], laidTests := true, laidLooks := .later }
def HarropSafeCardSaid : Prop := Claim7.holds Tryz.pinned (.plain (OpenSpec.ofChange harropSafeSpec)) harropSafeCard

/-- THE TIED CARD OF 'dictumlaw27.HarropTells'. -/
def harropTellsCard : Claim7 := { stood := { row := harropTellsRow, standIns := [], harness := (true, "20c31b7f55a4db11b38a3e9ba1014d4cfc601eaabff8c5867915ce901228ee3f"), looks := false }, kinds := [], alts := [], laidByText := true, laidKinds := [.data], laidTests := true, laidLooks := .later }
def HarropTellsCardSaid : Prop := Claim7.holds Tryz.pinned (.plain (OpenSpec.ofChange harropTellsSpec)) harropTellsCard

/-- THE TIED CARD OF 'dictumlaw27.HarropRules'. -/
def harropRulesCard : Claim7 := { stood := { row := harropRulesRow, standIns := [], harness := (true, "20c31b7f55a4db11b38a3e9ba1014d4cfc601eaabff8c5867915ce901228ee3f"), looks := false }, kinds := [], alts := [], laidByText := true, laidKinds := [.data], laidTests := true, laidLooks := .later }
def HarropRulesCardSaid : Prop := Claim7.holds Tryz.pinned (.plain (OpenSpec.ofChange harropRulesSpec)) harropRulesCard

/-- THE SECOND FORM's CARD OF 'dictumlaw27.HarropSplits'. -/
def harropSplitsUptoCard : Claim7 := { stood := { row := harropSplitsUptoRow, standIns := [], harness := (true, "20c31b7f55a4db11b38a3e9ba1014d4cfc601eaabff8c5867915ce901228ee3f"), looks := false }, kinds := [], alts := [], laidByText := true, laidKinds := [.data], laidTests := true, laidLooks := .later }
def HarropSplitsUptoCardSaid : Prop := Claim7.holds Tryz.pinned (.plain (OpenSpec.upto harropSplitsSpec)) harropSplitsUptoCard

/-- THE SECOND FORM's CARD OF 'dictumlaw27.HarropVisser'. -/
def harropVisserUptoCard : Claim7 := { stood := { row := harropVisserUptoRow, standIns := [], harness := (true, "20c31b7f55a4db11b38a3e9ba1014d4cfc601eaabff8c5867915ce901228ee3f"), looks := false }, kinds := [], alts := [], laidByText := true, laidKinds := [.data], laidTests := true, laidLooks := .later }
def HarropVisserUptoCardSaid : Prop := Claim7.holds Tryz.pinned (.plain (OpenSpec.upto harropVisserSpec)) harropVisserUptoCard

/-- THE SECOND FORM's CARD OF 'dictumlaw27.HarropSafe'. -/
def harropSafeUptoCard : Claim7 := { stood := { row := harropSafeUptoRow, standIns := [], harness := (true, "20c31b7f55a4db11b38a3e9ba1014d4cfc601eaabff8c5867915ce901228ee3f"), looks := false }, kinds := [], alts := [], laidByText := true, laidKinds := [.data], laidTests := true, laidLooks := .later }
def HarropSafeUptoCardSaid : Prop := Claim7.holds Tryz.pinned (.plain (OpenSpec.upto harropSafeSpec)) harropSafeUptoCard

/-- THE SECOND FORM's CARD OF 'dictumlaw27.HarropTells'. -/
def harropTellsUptoCard : Claim7 := { stood := { row := harropTellsUptoRow, standIns := [], harness := (true, "20c31b7f55a4db11b38a3e9ba1014d4cfc601eaabff8c5867915ce901228ee3f"), looks := false }, kinds := [], alts := [], laidByText := true, laidKinds := [.data], laidTests := true, laidLooks := .later }
def HarropTellsUptoCardSaid : Prop := Claim7.holds Tryz.pinned (.plain (OpenSpec.upto harropTellsSpec)) harropTellsUptoCard

/-- THE SECOND FORM's CARD OF 'dictumlaw27.HarropRules'. -/
def harropRulesUptoCard : Claim7 := { stood := { row := harropRulesUptoRow, standIns := [], harness := (true, "20c31b7f55a4db11b38a3e9ba1014d4cfc601eaabff8c5867915ce901228ee3f"), looks := false }, kinds := [], alts := [], laidByText := true, laidKinds := [.data], laidTests := true, laidLooks := .later }
def HarropRulesUptoCardSaid : Prop := Claim7.holds Tryz.pinned (.plain (OpenSpec.upto harropRulesSpec)) harropRulesUptoCard
end Rows
end Go.Proofs.YthhokkfcdbcllaaGreatDoor
