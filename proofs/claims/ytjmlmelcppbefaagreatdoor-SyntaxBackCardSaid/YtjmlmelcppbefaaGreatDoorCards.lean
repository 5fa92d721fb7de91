/-
  DERIVED. GIVEN WITH THE SEED: THE CARDS: each row of YtjmlmelcppbefaaGreatDoorRows.lean that lists a variable, with what it lists TIED to the program's text (the seventh form; the later family's looks); each row that meets fmt, with fmt's text TOLD by the authors' own Lean function (tested against real Go, not proved from fmt's source: count such statements apart). THE CARD IS WHAT COUNTS. Prove the row's statement (the work); the ties are given (YtjmlmelcppbefaaGreatDoorTie.lean); close each card by the builder's one call (the guide's Derived/Test/ToyasCard.lean, 'card_holds'). Laid BY PROGRAM, IN A SANDBOX (cutbox-door.mjs). By AI agents, Wed Nov 11 2026. No macro, syntax, notation, axiom, sorry.
-/
import Derived.Test.YtjmlmelcppbefaaGreatDoorRows
import GoSem.ClaimSeven
namespace Go.Proofs.YtjmlmelcppbefaaGreatDoor
namespace Rows

/-- THE TIED CARD OF 'warplaw02.SyntaxTexts'. -/
def syntaxTextsCard : Claim7 := { stood := { row := syntaxTextsRow, standIns := [], harness := (true, "f23ab27cc4b4f9431f8dab9380e33e11aa04f991980e433e1972486d1c278b46"), looks := true }, kinds := [], alts := [], laidByText := true, laidKinds := [.data, .data, .data, .sentinel, .sentinel, .data, .data], laidTests := true, laidLooks := .later }
def SyntaxTextsCardSaid : Prop := Claim7.holds Tryz.pinned (.plain (OpenSpec.ofChange syntaxTextsSpec)) syntaxTextsCard

/-- THE TIED CARD OF 'warplaw02.SyntaxExprs'. -/
def syntaxExprsCard : Claim7 := { stood := { row := syntaxExprsRow, standIns := [], harness := (true, "f23ab27cc4b4f9431f8dab9380e33e11aa04f991980e433e1972486d1c278b46"), looks := true }, kinds := [], alts := [], laidByText := true, laidKinds := [.data, .data, .data, .sentinel, .sentinel, .data, .data], laidTests := true, laidLooks := .later }
def SyntaxExprsCardSaid : Prop := Claim7.holds Tryz.pinned (.plain (OpenSpec.ofChange syntaxExprsSpec)) syntaxExprsCard

/-- THE TIED CARD OF 'warplaw02.SyntaxStmts'. -/
def syntaxStmtsCard : Claim7 := { stood := { row := syntaxStmtsRow, standIns := [], harness := (true, "f23ab27cc4b4f9431f8dab9380e33e11aa04f991980e433e1972486d1c278b46"), looks := true }, kinds := [], alts := [], laidByText := true, laidKinds := [.data, .data, .data, .sentinel, .sentinel, .data, .data], laidTests := true, laidLooks := .later }
def SyntaxStmtsCardSaid : Prop := Claim7.holds Tryz.pinned (.plain (OpenSpec.ofChange syntaxStmtsSpec)) syntaxStmtsCard

/-- THE TIED CARD OF 'warplaw02.SyntaxPrints'. -/
def syntaxPrintsCard : Claim7 := { stood := { row := syntaxPrintsRow, standIns := [], harness := (true, "f23ab27cc4b4f9431f8dab9380e33e11aa04f991980e433e1972486d1c278b46"), looks := true }, kinds := [], alts := [], laidByText := true, laidKinds := [.data, .data, .data, .sentinel, .sentinel, .data, .data], laidTests := true, laidLooks := .later }
def SyntaxPrintsCardSaid : Prop := Claim7.holds Tryz.pinned (.plain (OpenSpec.ofChange syntaxPrintsSpec)) syntaxPrintsCard

/-- THE TIED CARD OF 'warplaw02.SyntaxDeep'. -/
def syntaxDeepCard : Claim7 := { stood := { row := syntaxDeepRow, standIns := [], harness := (true, "f23ab27cc4b4f9431f8dab9380e33e11aa04f991980e433e1972486d1c278b46"), looks := true }, kinds := [], alts := [], laidByText := true, laidKinds := [.data, .data, .data, .sentinel, .sentinel, .data, .data], laidTests := true, laidLooks := .later }
def SyntaxDeepCardSaid : Prop := Claim7.holds Tryz.pinned (.plain (OpenSpec.ofChange syntaxDeepSpec)) syntaxDeepCard

/-- THE TIED CARD OF 'warplaw02.SyntaxBounds'. -/
def syntaxBoundsCard : Claim7 := { stood := { row := syntaxBoundsRow, standIns := [], harness := (true, "f23ab27cc4b4f9431f8dab9380e33e11aa04f991980e433e1972486d1c278b46"), looks := true }, kinds := [], alts := [], laidByText := true, laidKinds := [.data, .data, .data, .sentinel, .sentinel, .data, .data], laidTests := true, laidLooks := .later }
def SyntaxBoundsCardSaid : Prop := Claim7.holds Tryz.pinned (.plain (OpenSpec.ofChange syntaxBoundsSpec)) syntaxBoundsCard

/-- THE TIED CARD OF 'warplaw02.SyntaxDecls'. -/
def syntaxDeclsCard : Claim7 := { stood := { row := syntaxDeclsRow, standIns := [], harness := (true, "f23ab27cc4b4f9431f8dab9380e33e11aa04f991980e433e1972486d1c278b46"), looks := true }, kinds := [], alts := [], laidByText := true, laidKinds := [.data, .data, .data, .sentinel, .sentinel, .data, .data], laidTests := true, laidLooks := .later }
def SyntaxDeclsCardSaid : Prop := Claim7.holds Tryz.pinned (.plain (OpenSpec.ofChange syntaxDeclsSpec)) syntaxDeclsCard

/-- THE TIED CARD OF 'warplaw02.SyntaxTwice'. -/
def syntaxTwiceCard : Claim7 := { stood := { row := syntaxTwiceRow, standIns := [], harness := (true, "f23ab27cc4b4f9431f8dab9380e33e11aa04f991980e433e1972486d1c278b46"), looks := true }, kinds := [], alts := [], laidByText := true, laidKinds := [.data, .data, .data, .sentinel, .sentinel, .data, .data], laidTests := true, laidLooks := .later }
def SyntaxTwiceCardSaid : Prop := Claim7.holds Tryz.pinned (.plain (OpenSpec.ofChange syntaxTwiceSpec)) syntaxTwiceCard

/-- THE TIED CARD OF 'warplaw02.SyntaxTrees'. -/
def syntaxTreesCard : Claim7 := { stood := { row := syntaxTreesRow, standIns := [], harness := (true, "f23ab27cc4b4f9431f8dab9380e33e11aa04f991980e433e1972486d1c278b46"), looks := true }, kinds := [], alts := [], laidByText := true, laidKinds := [.data, .data, .data, .sentinel, .sentinel, .data, .data], laidTests := true, laidLooks := .later }
def SyntaxTreesCardSaid : Prop := Claim7.holds Tryz.pinned (.plain (OpenSpec.ofChange syntaxTreesSpec)) syntaxTreesCard

/-- THE TIED CARD OF 'warplaw02.SyntaxGoes'. -/
def syntaxGoesCard : Claim7 := { stood := { row := syntaxGoesRow, standIns := [], harness := (true, "f23ab27cc4b4f9431f8dab9380e33e11aa04f991980e433e1972486d1c278b46"), looks := true }, kinds := [], alts := [], laidByText := true, laidKinds := [.data, .data, .data, .sentinel, .sentinel, .data, .data], laidTests := true, laidLooks := .later }
def SyntaxGoesCardSaid : Prop := Claim7.holds Tryz.pinned (.plain (OpenSpec.ofChange syntaxGoesSpec)) syntaxGoesCard

/-- THE TIED CARD OF 'warplaw02.SyntaxSame'. -/
def syntaxSameCard : Claim7 := { stood := { row := syntaxSameRow, standIns := [], harness := (true, "f23ab27cc4b4f9431f8dab9380e33e11aa04f991980e433e1972486d1c278b46"), looks := true }, kinds := [], alts := [], laidByText := true, laidKinds := [.data, .data, .data, .sentinel, .sentinel, .data, .data], laidTests := true, laidLooks := .later }
def SyntaxSameCardSaid : Prop := Claim7.holds Tryz.pinned (.plain (OpenSpec.ofChange syntaxSameSpec)) syntaxSameCard

/-- THE TIED CARD OF 'warplaw02.SyntaxBack'. -/
def syntaxBackCard : Claim7 := { stood := { row := syntaxBackRow, standIns := [], harness := (true, "f23ab27cc4b4f9431f8dab9380e33e11aa04f991980e433e1972486d1c278b46"), looks := true }, kinds := [], alts := [], laidByText := true, laidKinds := [.data, .data, .data, .sentinel, .sentinel, .data, .data], laidTests := true, laidLooks := .later }
def SyntaxBackCardSaid : Prop := Claim7.holds Tryz.pinned (.plain (OpenSpec.ofChange syntaxBackSpec)) syntaxBackCard

/-- THE SECOND FORM's CARD OF 'warplaw02.SyntaxTexts'. -/
def syntaxTextsUptoCard : Claim7 := { stood := { row := syntaxTextsUptoRow, standIns := [], harness := (true, "f23ab27cc4b4f9431f8dab9380e33e11aa04f991980e433e1972486d1c278b46"), looks := true }, kinds := [], alts := [], laidByText := true, laidKinds := [.data, .data, .data, .sentinel, .sentinel, .data, .data], laidTests := true, laidLooks := .later }
def SyntaxTextsUptoCardSaid : Prop := Claim7.holds Tryz.pinned (.plain (OpenSpec.upto syntaxTextsSpec)) syntaxTextsUptoCard

/-- THE SECOND FORM's CARD OF 'warplaw02.SyntaxExprs'. -/
def syntaxExprsUptoCard : Claim7 := { stood := { row := syntaxExprsUptoRow, standIns := [], harness := (true, "f23ab27cc4b4f9431f8dab9380e33e11aa04f991980e433e1972486d1c278b46"), looks := true }, kinds := [], alts := [], laidByText := true, laidKinds := [.data, .data, .data, .sentinel, .sentinel, .data, .data], laidTests := true, laidLooks := .later }
def SyntaxExprsUptoCardSaid : Prop := Claim7.holds Tryz.pinned (.plain (OpenSpec.upto syntaxExprsSpec)) syntaxExprsUptoCard

/-- THE SECOND FORM's CARD OF 'warplaw02.SyntaxStmts'. -/
def syntaxStmtsUptoCard : Claim7 := { stood := { row := syntaxStmtsUptoRow, standIns := [], harness := (true, "f23ab27cc4b4f9431f8dab9380e33e11aa04f991980e433e1972486d1c278b46"), looks := true }, kinds := [], alts := [], laidByText := true, laidKinds := [.data, .data, .data, .sentinel, .sentinel, .data, .data], laidTests := true, laidLooks := .later }
def SyntaxStmtsUptoCardSaid : Prop := Claim7.holds Tryz.pinned (.plain (OpenSpec.upto syntaxStmtsSpec)) syntaxStmtsUptoCard

/-- THE SECOND FORM's CARD OF 'warplaw02.SyntaxPrints'. -/
def syntaxPrintsUptoCard : Claim7 := { stood := { row := syntaxPrintsUptoRow, standIns := [], harness := (true, "f23ab27cc4b4f9431f8dab9380e33e11aa04f991980e433e1972486d1c278b46"), looks := true }, kinds := [], alts := [], laidByText := true, laidKinds := [.data, .data, .data, .sentinel, .sentinel, .data, .data], laidTests := true, laidLooks := .later }
def SyntaxPrintsUptoCardSaid : Prop := Claim7.holds Tryz.pinned (.plain (OpenSpec.upto syntaxPrintsSpec)) syntaxPrintsUptoCard

/-- THE SECOND FORM's CARD OF 'warplaw02.SyntaxDeep'. -/
def syntaxDeepUptoCard : Claim7 := { stood := { row := syntaxDeepUptoRow, standIns := [], harness := (true, "f23ab27cc4b4f9431f8dab9380e33e11aa04f991980e433e1972486d1c278b46"), looks := true }, kinds := [], alts := [], laidByText := true, laidKinds := [.data, .data, .data, .sentinel, .sentinel, .data, .data], laidTests := true, laidLooks := .later }
def SyntaxDeepUptoCardSaid : Prop := Claim7.holds Tryz.pinned (.plain (OpenSpec.upto syntaxDeepSpec)) syntaxDeepUptoCard

/-- THE SECOND FORM's CARD OF 'warplaw02.SyntaxBounds'. -/
def syntaxBoundsUptoCard : Claim7 := { stood := { row := syntaxBoundsUptoRow, standIns := [], harness := (true, "f23ab27cc4b4f9431f8dab9380e33e11aa04f991980e433e1972486d1c278b46"), looks := true }, kinds := [], alts := [], laidByText := true, laidKinds := [.data, .data, .data, .sentinel, .sentinel, .data, .data], laidTests := true, laidLooks := .later }
def SyntaxBoundsUptoCardSaid : Prop := Claim7.holds Tryz.pinned (.plain (OpenSpec.upto syntaxBoundsSpec)) syntaxBoundsUptoCard

/-- THE SECOND FORM's CARD OF 'warplaw02.SyntaxDecls'. -/
def syntaxDeclsUptoCard : Claim7 := { stood := { row := syntaxDeclsUptoRow, standIns := [], harness := (true, "f23ab27cc4b4f9431f8dab9380e33e11aa04f991980e433e1972486d1c278b46"), looks := true }, kinds := [], alts := [], laidByText := true, laidKinds := [.data, .data, .data, .sentinel, .sentinel, .data, .data], laidTests := true, laidLooks := .later }
def SyntaxDeclsUptoCardSaid : Prop := Claim7.holds Tryz.pinned (.plain (OpenSpec.upto syntaxDeclsSpec)) syntaxDeclsUptoCard

/-- THE SECOND FORM's CARD OF 'warplaw02.SyntaxTwice'. -/
def syntaxTwiceUptoCard : Claim7 := { stood := { row := syntaxTwiceUptoRow, standIns := [], harness := (true, "f23ab27cc4b4f9431f8dab9380e33e11aa04f991980e433e1972486d1c278b46"), looks := true }, kinds := [], alts := [], laidByText := true, laidKinds := [.data, .data, .data, .sentinel, .sentinel, .data, .data], laidTests := true, laidLooks := .later }
def SyntaxTwiceUptoCardSaid : Prop := Claim7.holds Tryz.pinned (.plain (OpenSpec.upto syntaxTwiceSpec)) syntaxTwiceUptoCard

/-- THE SECOND FORM's CARD OF 'warplaw02.SyntaxTrees'. -/
def syntaxTreesUptoCard : Claim7 := { stood := { row := syntaxTreesUptoRow, standIns := [], harness := (true, "f23ab27cc4b4f9431f8dab9380e33e11aa04f991980e433e1972486d1c278b46"), looks := true }, kinds := [], alts := [], laidByText := true, laidKinds := [.data, .data, .data, .sentinel, .sentinel, .data, .data], laidTests := true, laidLooks := .later }
def SyntaxTreesUptoCardSaid : Prop := Claim7.holds Tryz.pinned (.plain (OpenSpec.upto syntaxTreesSpec)) syntaxTreesUptoCard

/-- THE SECOND FORM's CARD OF 'warplaw02.SyntaxGoes'. -/
def syntaxGoesUptoCard : Claim7 := { stood := { row := syntaxGoesUptoRow, standIns := [], harness := (true, "f23ab27cc4b4f9431f8dab9380e33e11aa04f991980e433e1972486d1c278b46"), looks := true }, kinds := [], alts := [], laidByText := true, laidKinds := [.data, .data, .data, .sentinel, .sentinel, .data, .data], laidTests := true, laidLooks := .later }
def SyntaxGoesUptoCardSaid : Prop := Claim7.holds Tryz.pinned (.plain (OpenSpec.upto syntaxGoesSpec)) syntaxGoesUptoCard

/-- THE SECOND FORM's CARD OF 'warplaw02.SyntaxSame'. -/
def syntaxSameUptoCard : Claim7 := { stood := { row := syntaxSameUptoRow, standIns := [], harness := (true, "f23ab27cc4b4f9431f8dab9380e33e11aa04f991980e433e1972486d1c278b46"), looks := true }, kinds := [], alts := [], laidByText := true, laidKinds := [.data, .data, .data, .sentinel, .sentinel, .data, .data], laidTests := true, laidLooks := .later }
def SyntaxSameUptoCardSaid : Prop := Claim7.holds Tryz.pinned (.plain (OpenSpec.upto syntaxSameSpec)) syntaxSameUptoCard

/-- THE SECOND FORM's CARD OF 'warplaw02.SyntaxBack'. -/
def syntaxBackUptoCard : Claim7 := { stood := { row := syntaxBackUptoRow, standIns := [], harness := (true, "f23ab27cc4b4f9431f8dab9380e33e11aa04f991980e433e1972486d1c278b46"), looks := true }, kinds := [], alts := [], laidByText := true, laidKinds := [.data, .data, .data, .sentinel, .sentinel, .data, .data], laidTests := true, laidLooks := .later }
def SyntaxBackUptoCardSaid : Prop := Claim7.holds Tryz.pinned (.plain (OpenSpec.upto syntaxBackSpec)) syntaxBackUptoCard
end Rows
end Go.Proofs.YtjmlmelcppbefaaGreatDoor
