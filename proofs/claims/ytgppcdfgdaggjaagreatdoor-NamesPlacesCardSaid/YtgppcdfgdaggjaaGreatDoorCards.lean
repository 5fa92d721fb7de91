/-
  DERIVED. GIVEN WITH THE SEED: THE CARDS: each row of YtgppcdfgdaggjaaGreatDoorRows.lean that lists a variable, with what it lists TIED to the program's text (the seventh form; the later family's looks); each row that meets fmt, with fmt's text TOLD by the authors' own Lean function (tested against real Go, not proved from fmt's source: count such statements apart). THE CARD IS WHAT COUNTS. Prove the row's statement (the work); the ties are given (YtgppcdfgdaggjaaGreatDoorTie.lean); close each card by the builder's one call (the guide's Derived/Test/ToyasCard.lean, 'card_holds'). Laid BY PROGRAM, IN A SANDBOX (cutbox-door.mjs). By AI agents, Wed Nov 11 2026. No macro, syntax, notation, axiom, sorry.
-/
import Derived.Test.YtgppcdfgdaggjaaGreatDoorRows
import GoSem.ClaimSeven
namespace Go.Proofs.YtgppcdfgdaggjaaGreatDoor
namespace Rows

/-- THE TIED CARD OF 'warplaw03.NamesText'. -/
def namesTextCard : Claim7 := { stood := { row := namesTextRow, standIns := [], harness := (true, "07cccc501baab37feab103e83d956d2e49721dd285e105abfde573ab1a2e57be"), looks := true }, kinds := [], alts := [], laidByText := true, laidKinds := [.data, .data, .data, .sentinel, .sentinel, .data, .data], laidTests := true, laidLooks := .later }
def NamesTextCardSaid : Prop := Claim7.holds Tryz.pinned (.plain (OpenSpec.ofChange namesTextSpec)) namesTextCard

/-- THE TIED CARD OF 'warplaw03.NamesFind'. -/
def namesFindCard : Claim7 := { stood := { row := namesFindRow, standIns := [], harness := (true, "07cccc501baab37feab103e83d956d2e49721dd285e105abfde573ab1a2e57be"), looks := true }, kinds := [], alts := [], laidByText := true, laidKinds := [.data, .data, .data, .sentinel, .sentinel, .data, .data], laidTests := true, laidLooks := .later }
def NamesFindCardSaid : Prop := Claim7.holds Tryz.pinned (.plain (OpenSpec.ofChange namesFindSpec)) namesFindCard

/-- THE TIED CARD OF 'warplaw03.NamesMany'. -/
def namesManyCard : Claim7 := { stood := { row := namesManyRow, standIns := [], harness := (true, "07cccc501baab37feab103e83d956d2e49721dd285e105abfde573ab1a2e57be"), looks := true }, kinds := [], alts := [], laidByText := true, laidKinds := [.data, .data, .data, .sentinel, .sentinel, .data, .data], laidTests := true, laidLooks := .later }
def NamesManyCardSaid : Prop := Claim7.holds Tryz.pinned (.plain (OpenSpec.ofChange namesManySpec)) namesManyCard

/-- THE TIED CARD OF 'warplaw03.NamesScope'. -/
def namesScopeCard : Claim7 := { stood := { row := namesScopeRow, standIns := [], harness := (true, "07cccc501baab37feab103e83d956d2e49721dd285e105abfde573ab1a2e57be"), looks := true }, kinds := [], alts := [], laidByText := true, laidKinds := [.data, .data, .data, .sentinel, .sentinel, .data, .data], laidTests := true, laidLooks := .later }
def NamesScopeCardSaid : Prop := Claim7.holds Tryz.pinned (.plain (OpenSpec.ofChange namesScopeSpec)) namesScopeCard

/-- THE TIED CARD OF 'warplaw03.NamesStmts'. -/
def namesStmtsCard : Claim7 := { stood := { row := namesStmtsRow, standIns := [], harness := (true, "07cccc501baab37feab103e83d956d2e49721dd285e105abfde573ab1a2e57be"), looks := true }, kinds := [], alts := [], laidByText := true, laidKinds := [.data, .data, .data, .sentinel, .sentinel, .data, .data], laidTests := true, laidLooks := .later }
def NamesStmtsCardSaid : Prop := Claim7.holds Tryz.pinned (.plain (OpenSpec.ofChange namesStmtsSpec)) namesStmtsCard

/-- THE TIED CARD OF 'warplaw03.NamesPlaces'. -/
def namesPlacesCard : Claim7 := { stood := { row := namesPlacesRow, standIns := [], harness := (true, "07cccc501baab37feab103e83d956d2e49721dd285e105abfde573ab1a2e57be"), looks := true }, kinds := [], alts := [], laidByText := true, laidKinds := [.data, .data, .data, .sentinel, .sentinel, .data, .data], laidTests := true, laidLooks := .later }
def NamesPlacesCardSaid : Prop := Claim7.holds Tryz.pinned (.plain (OpenSpec.ofChange namesPlacesSpec)) namesPlacesCard

/-- THE SECOND FORM's CARD OF 'warplaw03.NamesText'. -/
def namesTextUptoCard : Claim7 := { stood := { row := namesTextUptoRow, standIns := [], harness := (true, "07cccc501baab37feab103e83d956d2e49721dd285e105abfde573ab1a2e57be"), looks := true }, kinds := [], alts := [], laidByText := true, laidKinds := [.data, .data, .data, .sentinel, .sentinel, .data, .data], laidTests := true, laidLooks := .later }
def NamesTextUptoCardSaid : Prop := Claim7.holds Tryz.pinned (.plain (OpenSpec.upto namesTextSpec)) namesTextUptoCard

/-- THE SECOND FORM's CARD OF 'warplaw03.NamesFind'. -/
def namesFindUptoCard : Claim7 := { stood := { row := namesFindUptoRow, standIns := [], harness := (true, "07cccc501baab37feab103e83d956d2e49721dd285e105abfde573ab1a2e57be"), looks := true }, kinds := [], alts := [], laidByText := true, laidKinds := [.data, .data, .data, .sentinel, .sentinel, .data, .data], laidTests := true, laidLooks := .later }
def NamesFindUptoCardSaid : Prop := Claim7.holds Tryz.pinned (.plain (OpenSpec.upto namesFindSpec)) namesFindUptoCard

/-- THE SECOND FORM's CARD OF 'warplaw03.NamesMany'. -/
def namesManyUptoCard : Claim7 := { stood := { row := namesManyUptoRow, standIns := [], harness := (true, "07cccc501baab37feab103e83d956d2e49721dd285e105abfde573ab1a2e57be"), looks := true }, kinds := [], alts := [], laidByText := true, laidKinds := [.data, .data, .data, .sentinel, .sentinel, .data, .data], laidTests := true, laidLooks := .later }
def NamesManyUptoCardSaid : Prop := Claim7.holds Tryz.pinned (.plain (OpenSpec.upto namesManySpec)) namesManyUptoCard

/-- THE SECOND FORM's CARD OF 'warplaw03.NamesScope'. -/
def namesScopeUptoCard : Claim7 := { stood := { row := namesScopeUptoRow, standIns := [], harness := (true, "07cccc501baab37feab103e83d956d2e49721dd285e105abfde573ab1a2e57be"), looks := true }, kinds := [], alts := [], laidByText := true, laidKinds := [.data, .data, .data, .sentinel, .sentinel, .data, .data], laidTests := true, laidLooks := .later }
def NamesScopeUptoCardSaid : Prop := Claim7.holds Tryz.pinned (.plain (OpenSpec.upto namesScopeSpec)) namesScopeUptoCard

/-- THE SECOND FORM's CARD OF 'warplaw03.NamesStmts'. -/
def namesStmtsUptoCard : Claim7 := { stood := { row := namesStmtsUptoRow, standIns := [], harness := (true, "07cccc501baab37feab103e83d956d2e49721dd285e105abfde573ab1a2e57be"), looks := true }, kinds := [], alts := [], laidByText := true, laidKinds := [.data, .data, .data, .sentinel, .sentinel, .data, .data], laidTests := true, laidLooks := .later }
def NamesStmtsUptoCardSaid : Prop := Claim7.holds Tryz.pinned (.plain (OpenSpec.upto namesStmtsSpec)) namesStmtsUptoCard

/-- THE SECOND FORM's CARD OF 'warplaw03.NamesPlaces'. -/
def namesPlacesUptoCard : Claim7 := { stood := { row := namesPlacesUptoRow, standIns := [], harness := (true, "07cccc501baab37feab103e83d956d2e49721dd285e105abfde573ab1a2e57be"), looks := true }, kinds := [], alts := [], laidByText := true, laidKinds := [.data, .data, .data, .sentinel, .sentinel, .data, .data], laidTests := true, laidLooks := .later }
def NamesPlacesUptoCardSaid : Prop := Claim7.holds Tryz.pinned (.plain (OpenSpec.upto namesPlacesSpec)) namesPlacesUptoCard
end Rows
end Go.Proofs.YtgppcdfgdaggjaaGreatDoor
