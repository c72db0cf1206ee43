/-
  DERIVED. GIVEN WITH THE SEED: THE CARDS: each row of YtdnkapfcnapadaaGreatDoorRows.lean that lists a variable, with what it lists TIED to the program's text (the seventh form; the later family's looks); each row that meets fmt, with fmt's text TOLD by the authors' own Lean function (tested against real Go, not proved from fmt's source: count such statements apart). THE CARD IS WHAT COUNTS. Prove the row's statement (the work); the ties are given (YtdnkapfcnapadaaGreatDoorTie.lean); close each card by the builder's one call (the guide's Derived/Test/ToyasCard.lean, 'card_holds'). Laid BY PROGRAM, IN A SANDBOX (cutbox-door.mjs). By AI agents, Wed Nov 11 2026. No macro, syntax, notation, axiom, sorry.
-/
import Derived.Test.YtdnkapfcnapadaaGreatDoorRows
import GoSem.ClaimSeven
namespace Go.Proofs.YtdnkapfcnapadaaGreatDoor
namespace Rows

/-- THE TIED CARD OF 'ravelinlaw7.SaveWrites'. -/
def saveWritesCard : Claim7 := { stood := { row := saveWritesRow, standIns := [], harness := (true, "cd0c322cdd53b02cf3dac36af2a266ebb4f8f9eb71b4dc26d5a1daa8d8938ec4"), looks := true }, kinds := [], alts := [], laidByText := true, laidKinds := [.data, .data, .data, .data, .handle, .pinned], laidTests := true, laidLooks := .later }
def SaveWritesCardSaid : Prop := Claim7.holds Tryz.pinned (.plain (OpenSpec.ofChange saveWritesSpec)) saveWritesCard

/-- THE TIED CARD OF 'ravelinlaw7.SaveReads'. -/
def saveReadsCard : Claim7 := { stood := { row := saveReadsRow, standIns := [], harness := (true, "cd0c322cdd53b02cf3dac36af2a266ebb4f8f9eb71b4dc26d5a1daa8d8938ec4"), looks := true }, kinds := [], alts := [], laidByText := true, laidKinds := [.data, .data, .data, .data, .handle, .pinned], laidTests := true, laidLooks := .later }
def SaveReadsCardSaid : Prop := Claim7.holds Tryz.pinned (.plain (OpenSpec.ofChange saveReadsSpec)) saveReadsCard

/-- THE TIED CARD OF 'ravelinlaw6.CodeCompiles'. -/
def codeCompilesCard : Claim7 := { stood := { row := codeCompilesRow, standIns := [], harness := (true, "cd0c322cdd53b02cf3dac36af2a266ebb4f8f9eb71b4dc26d5a1daa8d8938ec4"), looks := true }, kinds := [], alts := [], laidByText := true, laidKinds := [.data, .data, .data, .data, .handle, .pinned], laidTests := true, laidLooks := .later }
def CodeCompilesCardSaid : Prop := Claim7.holds Tryz.pinned (.plain (OpenSpec.ofChange codeCompilesSpec)) codeCompilesCard

/-- THE TIED CARD OF 'ravelinlaw5.TreeParses'. -/
def treeParsesCard : Claim7 := { stood := { row := treeParsesRow, standIns := [], harness := (true, "cd0c322cdd53b02cf3dac36af2a266ebb4f8f9eb71b4dc26d5a1daa8d8938ec4"), looks := true }, kinds := [], alts := [], laidByText := true, laidKinds := [.data, .data, .data, .data, .handle, .pinned], laidTests := true, laidLooks := .later }
def TreeParsesCardSaid : Prop := Claim7.holds Tryz.pinned (.plain (OpenSpec.ofChange treeParsesSpec)) treeParsesCard

/-- THE TIED CARD OF 'ravelinlaw5.TreeSoon'. -/
def treeSoonCard : Claim7 := { stood := { row := treeSoonRow, standIns := [], harness := (true, "cd0c322cdd53b02cf3dac36af2a266ebb4f8f9eb71b4dc26d5a1daa8d8938ec4"), looks := true }, kinds := [], alts := [], laidByText := true, laidKinds := [.data, .data, .data, .data, .handle, .pinned], laidTests := true, laidLooks := .later }
def TreeSoonCardSaid : Prop := Claim7.holds Tryz.pinned (.plain (OpenSpec.ofChange treeSoonSpec)) treeSoonCard

/-- THE TIED CARD OF 'ravelinlaw5.TreePrints'. -/
def treePrintsCard : Claim7 := { stood := { row := treePrintsRow, standIns := [], harness := (true, "cd0c322cdd53b02cf3dac36af2a266ebb4f8f9eb71b4dc26d5a1daa8d8938ec4"), looks := true }, kinds := [], alts := [], laidByText := true, laidKinds := [.data, .data, .data, .data, .handle, .pinned], laidTests := true, laidLooks := .later }
def TreePrintsCardSaid : Prop := Claim7.holds Tryz.pinned (.plain (OpenSpec.ofChange treePrintsSpec)) treePrintsCard

/-- THE SECOND FORM's CARD OF 'ravelinlaw7.SaveWrites'. -/
def saveWritesUptoCard : Claim7 := { stood := { row := saveWritesUptoRow, standIns := [], harness := (true, "cd0c322cdd53b02cf3dac36af2a266ebb4f8f9eb71b4dc26d5a1daa8d8938ec4"), looks := true }, kinds := [], alts := [], laidByText := true, laidKinds := [.data, .data, .data, .data, .handle, .pinned], laidTests := true, laidLooks := .later }
def SaveWritesUptoCardSaid : Prop := Claim7.holds Tryz.pinned (.plain (OpenSpec.upto saveWritesSpec)) saveWritesUptoCard

/-- THE SECOND FORM's CARD OF 'ravelinlaw7.SaveReads'. -/
def saveReadsUptoCard : Claim7 := { stood := { row := saveReadsUptoRow, standIns := [], harness := (true, "cd0c322cdd53b02cf3dac36af2a266ebb4f8f9eb71b4dc26d5a1daa8d8938ec4"), looks := true }, kinds := [], alts := [], laidByText := true, laidKinds := [.data, .data, .data, .data, .handle, .pinned], laidTests := true, laidLooks := .later }
def SaveReadsUptoCardSaid : Prop := Claim7.holds Tryz.pinned (.plain (OpenSpec.upto saveReadsSpec)) saveReadsUptoCard

/-- THE SECOND FORM's CARD OF 'ravelinlaw6.CodeCompiles'. -/
def codeCompilesUptoCard : Claim7 := { stood := { row := codeCompilesUptoRow, standIns := [], harness := (true, "cd0c322cdd53b02cf3dac36af2a266ebb4f8f9eb71b4dc26d5a1daa8d8938ec4"), looks := true }, kinds := [], alts := [], laidByText := true, laidKinds := [.data, .data, .data, .data, .handle, .pinned], laidTests := true, laidLooks := .later }
def CodeCompilesUptoCardSaid : Prop := Claim7.holds Tryz.pinned (.plain (OpenSpec.upto codeCompilesSpec)) codeCompilesUptoCard

/-- THE SECOND FORM's CARD OF 'ravelinlaw5.TreeParses'. -/
def treeParsesUptoCard : Claim7 := { stood := { row := treeParsesUptoRow, standIns := [], harness := (true, "cd0c322cdd53b02cf3dac36af2a266ebb4f8f9eb71b4dc26d5a1daa8d8938ec4"), looks := true }, kinds := [], alts := [], laidByText := true, laidKinds := [.data, .data, .data, .data, .handle, .pinned], laidTests := true, laidLooks := .later }
def TreeParsesUptoCardSaid : Prop := Claim7.holds Tryz.pinned (.plain (OpenSpec.upto treeParsesSpec)) treeParsesUptoCard

/-- THE SECOND FORM's CARD OF 'ravelinlaw5.TreeSoon'. -/
def treeSoonUptoCard : Claim7 := { stood := { row := treeSoonUptoRow, standIns := [], harness := (true, "cd0c322cdd53b02cf3dac36af2a266ebb4f8f9eb71b4dc26d5a1daa8d8938ec4"), looks := true }, kinds := [], alts := [], laidByText := true, laidKinds := [.data, .data, .data, .data, .handle, .pinned], laidTests := true, laidLooks := .later }
def TreeSoonUptoCardSaid : Prop := Claim7.holds Tryz.pinned (.plain (OpenSpec.upto treeSoonSpec)) treeSoonUptoCard

/-- THE SECOND FORM's CARD OF 'ravelinlaw5.TreePrints'. -/
def treePrintsUptoCard : Claim7 := { stood := { row := treePrintsUptoRow, standIns := [], harness := (true, "cd0c322cdd53b02cf3dac36af2a266ebb4f8f9eb71b4dc26d5a1daa8d8938ec4"), looks := true }, kinds := [], alts := [], laidByText := true, laidKinds := [.data, .data, .data, .data, .handle, .pinned], laidTests := true, laidLooks := .later }
def TreePrintsUptoCardSaid : Prop := Claim7.holds Tryz.pinned (.plain (OpenSpec.upto treePrintsSpec)) treePrintsUptoCard
end Rows
end Go.Proofs.YtdnkapfcnapadaaGreatDoor
