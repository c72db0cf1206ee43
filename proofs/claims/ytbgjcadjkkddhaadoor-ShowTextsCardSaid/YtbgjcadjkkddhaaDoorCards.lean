/-
  DERIVED. GIVEN WITH THE SEED: THE CARDS: each row of YtbgjcadjkkddhaaDoorRows.lean that lists a variable, with what it lists TIED to the program's text (the seventh form; the later family's looks); each row that meets fmt, with fmt's text TOLD by the authors' own Lean function (tested against real Go, not proved from fmt's source: count such statements apart). THE CARD IS WHAT COUNTS. Prove the row's statement (the work); the ties are given (YtbgjcadjkkddhaaDoorTie.lean); close each card by the builder's one call (the guide's Derived/Test/ToyasCard.lean, 'card_holds'). Laid BY PROGRAM, IN A SANDBOX (cutbox-door.mjs). By AI agents, Wed Nov 11 2026. No macro, syntax, notation, axiom, sorry.
-/
import Derived.Test.YtbgjcadjkkddhaaDoorRows
import GoSem.ClaimSeven
namespace Go.Proofs.YtbgjcadjkkddhaaDoor
namespace Rows

/-- THE TIED CARD OF 'ravelinlaw7.GangFolds'. -/
def gangFoldsCard : Claim7 := { stood := { row := gangFoldsRow, standIns := [], harness := (true, "f87e956487c9c28ac9f73be82afa1befa8f584f63c4b536bc8244f50d7f8b4e2"), looks := true }, kinds := [], alts := [], goes := true, laidByText := true, laidKinds := [.handle], laidTests := true, laidLooks := .later }
def GangFoldsCardSaid : Prop := Claim7.holds Tryd.pinned (.plain (OpenSpec.ofChange gangFoldsSpec)) gangFoldsCard

/-- THE TIED CARD OF 'ravelinlaw7.GangEach'. -/
def gangEachCard : Claim7 := { stood := { row := gangEachRow, standIns := [], harness := (true, "f87e956487c9c28ac9f73be82afa1befa8f584f63c4b536bc8244f50d7f8b4e2"), looks := true }, kinds := [], alts := [], goes := true, laidByText := true, laidKinds := [.handle], laidTests := true, laidLooks := .later }
def GangEachCardSaid : Prop := Claim7.holds Tryd.pinned (.plain (OpenSpec.ofChange gangEachSpec)) gangEachCard

/-- THE TIED CARD OF 'ravelinlaw7.ShowRows'. -/
def showRowsCard : Claim7 := { stood := { row := showRowsRow, standIns := [], harness := (true, "f87e956487c9c28ac9f73be82afa1befa8f584f63c4b536bc8244f50d7f8b4e2"), looks := true }, kinds := [], alts := [], laidByText := true, laidKinds := [.data, .data, .data], laidTests := true, laidLooks := .later }
def ShowRowsCardSaid : Prop := Claim7.holds Tryd.pinned (.plain (OpenSpec.ofChange showRowsSpec)) showRowsCard

/-- THE TIED CARD OF 'ravelinlaw7.ShowTexts'. -/
def showTextsCard : Claim7 := { stood := { row := showTextsRow, standIns := [], harness := (true, "f87e956487c9c28ac9f73be82afa1befa8f584f63c4b536bc8244f50d7f8b4e2"), looks := true }, kinds := [], alts := [], goes := true, laidByText := true, laidKinds := [.data, .data, .data, .handle], laidTests := true, laidLooks := .later }
def ShowTextsCardSaid : Prop := Claim7.holds Tryd.pinned (.plain (OpenSpec.ofChange showTextsSpec)) showTextsCard

/-- THE SECOND FORM's CARD OF 'ravelinlaw7.GangFolds'. -/
def gangFoldsUptoCard : Claim7 := { stood := { row := gangFoldsUptoRow, standIns := [], harness := (true, "f87e956487c9c28ac9f73be82afa1befa8f584f63c4b536bc8244f50d7f8b4e2"), looks := true }, kinds := [], alts := [], goes := true, laidByText := true, laidKinds := [.handle], laidTests := true, laidLooks := .later }
def GangFoldsUptoCardSaid : Prop := Claim7.holds Tryd.pinned (.plain (OpenSpec.upto gangFoldsSpec)) gangFoldsUptoCard

/-- THE SECOND FORM's CARD OF 'ravelinlaw7.GangEach'. -/
def gangEachUptoCard : Claim7 := { stood := { row := gangEachUptoRow, standIns := [], harness := (true, "f87e956487c9c28ac9f73be82afa1befa8f584f63c4b536bc8244f50d7f8b4e2"), looks := true }, kinds := [], alts := [], goes := true, laidByText := true, laidKinds := [.handle], laidTests := true, laidLooks := .later }
def GangEachUptoCardSaid : Prop := Claim7.holds Tryd.pinned (.plain (OpenSpec.upto gangEachSpec)) gangEachUptoCard

/-- THE SECOND FORM's CARD OF 'ravelinlaw7.ShowRows'. -/
def showRowsUptoCard : Claim7 := { stood := { row := showRowsUptoRow, standIns := [], harness := (true, "f87e956487c9c28ac9f73be82afa1befa8f584f63c4b536bc8244f50d7f8b4e2"), looks := true }, kinds := [], alts := [], laidByText := true, laidKinds := [.data, .data, .data], laidTests := true, laidLooks := .later }
def ShowRowsUptoCardSaid : Prop := Claim7.holds Tryd.pinned (.plain (OpenSpec.upto showRowsSpec)) showRowsUptoCard

/-- THE SECOND FORM's CARD OF 'ravelinlaw7.ShowTexts'. -/
def showTextsUptoCard : Claim7 := { stood := { row := showTextsUptoRow, standIns := [], harness := (true, "f87e956487c9c28ac9f73be82afa1befa8f584f63c4b536bc8244f50d7f8b4e2"), looks := true }, kinds := [], alts := [], goes := true, laidByText := true, laidKinds := [.data, .data, .data, .handle], laidTests := true, laidLooks := .later }
def ShowTextsUptoCardSaid : Prop := Claim7.holds Tryd.pinned (.plain (OpenSpec.upto showTextsSpec)) showTextsUptoCard
end Rows
end Go.Proofs.YtbgjcadjkkddhaaDoor
