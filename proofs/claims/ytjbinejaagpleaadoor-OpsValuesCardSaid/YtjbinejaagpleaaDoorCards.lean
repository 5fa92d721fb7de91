/-
  DERIVED. GIVEN WITH THE SEED: THE CARDS: each row of YtjbinejaagpleaaDoorRows.lean that lists a variable, with what it lists TIED to the program's text (the seventh form; the later family's looks); each row that meets fmt, with fmt's text TOLD by the authors' own Lean function (tested against real Go, not proved from fmt's source: count such statements apart). THE CARD IS WHAT COUNTS. Prove the row's statement (the work); the ties are given (YtjbinejaagpleaaDoorTie.lean); close each card by the builder's one call (the guide's Derived/Test/ToyasCard.lean, 'card_holds'). Laid BY PROGRAM, IN A SANDBOX (cutbox-door.mjs). By AI agents, Wed Nov 11 2026. No macro, syntax, notation, axiom, sorry.
-/
import Derived.Test.YtjbinejaagpleaaDoorRows
import GoSem.ClaimSeven
namespace Go.Proofs.YtjbinejaagpleaaDoor
namespace Rows

/-- THE TIED CARD OF 'warplaw06.OpsValues'. -/
def opsValuesCard : Claim7 := { stood := { row := opsValuesRow, standIns := [], harness := (true, "90536bc246b3a04a52ea17f99c191a3f6e268bef3de7b514e16dfa157e5fa111"), looks := true }, kinds := [], alts := [], laidByText := true, laidKinds := [.data, .data, .data, .data], laidTests := true, laidLooks := .later }
def OpsValuesCardSaid : Prop := Claim7.holds Tryd.pinned (.plain (OpenSpec.ofChange opsValuesSpec)) opsValuesCard

/-- THE TIED CARD OF 'warplaw06.OpsBack'. -/
def opsBackCard : Claim7 := { stood := { row := opsBackRow, standIns := [], harness := (true, "90536bc246b3a04a52ea17f99c191a3f6e268bef3de7b514e16dfa157e5fa111"), looks := true }, kinds := [], alts := [], laidByText := true, laidKinds := [.data, .data, .data, .data], laidTests := true, laidLooks := .later }
def OpsBackCardSaid : Prop := Claim7.holds Tryd.pinned (.plain (OpenSpec.ofChange opsBackSpec)) opsBackCard

/-- THE TIED CARD OF 'warplaw06.OpsChecks'. -/
def opsChecksCard : Claim7 := { stood := { row := opsChecksRow, standIns := [], harness := (true, "90536bc246b3a04a52ea17f99c191a3f6e268bef3de7b514e16dfa157e5fa111"), looks := true }, kinds := [], alts := [], laidByText := true, laidKinds := [.data, .data, .data, .data], laidTests := true, laidLooks := .later }
def OpsChecksCardSaid : Prop := Claim7.holds Tryd.pinned (.plain (OpenSpec.ofChange opsChecksSpec)) opsChecksCard

/-- THE SECOND FORM's CARD OF 'warplaw06.OpsValues'. -/
def opsValuesUptoCard : Claim7 := { stood := { row := opsValuesUptoRow, standIns := [], harness := (true, "90536bc246b3a04a52ea17f99c191a3f6e268bef3de7b514e16dfa157e5fa111"), looks := true }, kinds := [], alts := [], laidByText := true, laidKinds := [.data, .data, .data, .data], laidTests := true, laidLooks := .later }
def OpsValuesUptoCardSaid : Prop := Claim7.holds Tryd.pinned (.plain (OpenSpec.upto opsValuesSpec)) opsValuesUptoCard

/-- THE SECOND FORM's CARD OF 'warplaw06.OpsBack'. -/
def opsBackUptoCard : Claim7 := { stood := { row := opsBackUptoRow, standIns := [], harness := (true, "90536bc246b3a04a52ea17f99c191a3f6e268bef3de7b514e16dfa157e5fa111"), looks := true }, kinds := [], alts := [], laidByText := true, laidKinds := [.data, .data, .data, .data], laidTests := true, laidLooks := .later }
def OpsBackUptoCardSaid : Prop := Claim7.holds Tryd.pinned (.plain (OpenSpec.upto opsBackSpec)) opsBackUptoCard

/-- THE SECOND FORM's CARD OF 'warplaw06.OpsChecks'. -/
def opsChecksUptoCard : Claim7 := { stood := { row := opsChecksUptoRow, standIns := [], harness := (true, "90536bc246b3a04a52ea17f99c191a3f6e268bef3de7b514e16dfa157e5fa111"), looks := true }, kinds := [], alts := [], laidByText := true, laidKinds := [.data, .data, .data, .data], laidTests := true, laidLooks := .later }
def OpsChecksUptoCardSaid : Prop := Claim7.holds Tryd.pinned (.plain (OpenSpec.upto opsChecksSpec)) opsChecksUptoCard
end Rows
end Go.Proofs.YtjbinejaagpleaaDoor
