/-
  DERIVED. GIVEN WITH THE SEED: THE CARDS: each row of YtpohbjomjngmeaaDoorRows.lean that lists a variable, with what it lists TIED to the program's text (the seventh form; the later family's looks); each row that meets fmt, with fmt's text TOLD by the authors' own Lean function (tested against real Go, not proved from fmt's source: count such statements apart). THE CARD IS WHAT COUNTS. Prove the row's statement (the work); the ties are given (YtpohbjomjngmeaaDoorTie.lean); close each card by the builder's one call (the guide's Derived/Test/ToyasCard.lean, 'card_holds'). Laid BY PROGRAM, IN A SANDBOX (cutbox-door.mjs). By AI agents, Wed Nov 11 2026. No macro, syntax, notation, axiom, sorry.
-/
import Derived.Test.YtpohbjomjngmeaaDoorRows
import GoSem.ClaimSeven
namespace Go.Proofs.YtpohbjomjngmeaaDoor
namespace Rows

/-- THE TIED CARD OF 'ravelinlaw7.SaveBack'. -/
def saveBackCard : Claim7 := { stood := { row := saveBackRow, standIns := [], harness := (true, "1ba1afe3470d3fa517a48c5913ddcaa9aacf30d027ea22714c208d22600cbf33"), looks := true }, kinds := [], alts := [], laidByText := true, laidKinds := [.data, .data, .data, .data, .pinned], laidTests := true, laidLooks := .later }
def SaveBackCardSaid : Prop := Claim7.holds Tryd.pinned (.plain (OpenSpec.ofChange saveBackSpec)) saveBackCard

/-- THE TIED CARD OF 'ravelinlaw7.SaveOne'. -/
def saveOneCard : Claim7 := { stood := { row := saveOneRow, standIns := [], harness := (true, "1ba1afe3470d3fa517a48c5913ddcaa9aacf30d027ea22714c208d22600cbf33"), looks := true }, kinds := [], alts := [], laidByText := true, laidKinds := [.data, .data, .data, .data, .pinned], laidTests := true, laidLooks := .later }
def SaveOneCardSaid : Prop := Claim7.holds Tryd.pinned (.plain (OpenSpec.ofChange saveOneSpec)) saveOneCard

/-- THE TIED CARD OF 'ravelinlaw7.SaveTorn'. -/
def saveTornCard : Claim7 := { stood := { row := saveTornRow, standIns := [], harness := (true, "1ba1afe3470d3fa517a48c5913ddcaa9aacf30d027ea22714c208d22600cbf33"), looks := true }, kinds := [], alts := [], laidByText := true, laidKinds := [.data, .data, .data, .data, .pinned], laidTests := true, laidLooks := .later }
def SaveTornCardSaid : Prop := Claim7.holds Tryd.pinned (.plain (OpenSpec.ofChange saveTornSpec)) saveTornCard

/-- THE TIED CARD OF 'ravelinlaw7.SaveTurned'. -/
def saveTurnedCard : Claim7 := { stood := { row := saveTurnedRow, standIns := [], harness := (true, "1ba1afe3470d3fa517a48c5913ddcaa9aacf30d027ea22714c208d22600cbf33"), looks := true }, kinds := [], alts := [], laidByText := true, laidKinds := [.data, .data, .data, .data, .handle, .pinned], laidTests := true, laidLooks := .later }
def SaveTurnedCardSaid : Prop := Claim7.holds Tryd.pinned (.plain (OpenSpec.ofChange saveTurnedSpec)) saveTurnedCard

/-- THE SECOND FORM's CARD OF 'ravelinlaw7.SaveBack'. -/
def saveBackUptoCard : Claim7 := { stood := { row := saveBackUptoRow, standIns := [], harness := (true, "1ba1afe3470d3fa517a48c5913ddcaa9aacf30d027ea22714c208d22600cbf33"), looks := true }, kinds := [], alts := [], laidByText := true, laidKinds := [.data, .data, .data, .data, .pinned], laidTests := true, laidLooks := .later }
def SaveBackUptoCardSaid : Prop := Claim7.holds Tryd.pinned (.plain (OpenSpec.upto saveBackSpec)) saveBackUptoCard

/-- THE SECOND FORM's CARD OF 'ravelinlaw7.SaveOne'. -/
def saveOneUptoCard : Claim7 := { stood := { row := saveOneUptoRow, standIns := [], harness := (true, "1ba1afe3470d3fa517a48c5913ddcaa9aacf30d027ea22714c208d22600cbf33"), looks := true }, kinds := [], alts := [], laidByText := true, laidKinds := [.data, .data, .data, .data, .pinned], laidTests := true, laidLooks := .later }
def SaveOneUptoCardSaid : Prop := Claim7.holds Tryd.pinned (.plain (OpenSpec.upto saveOneSpec)) saveOneUptoCard

/-- THE SECOND FORM's CARD OF 'ravelinlaw7.SaveTorn'. -/
def saveTornUptoCard : Claim7 := { stood := { row := saveTornUptoRow, standIns := [], harness := (true, "1ba1afe3470d3fa517a48c5913ddcaa9aacf30d027ea22714c208d22600cbf33"), looks := true }, kinds := [], alts := [], laidByText := true, laidKinds := [.data, .data, .data, .data, .pinned], laidTests := true, laidLooks := .later }
def SaveTornUptoCardSaid : Prop := Claim7.holds Tryd.pinned (.plain (OpenSpec.upto saveTornSpec)) saveTornUptoCard

/-- THE SECOND FORM's CARD OF 'ravelinlaw7.SaveTurned'. -/
def saveTurnedUptoCard : Claim7 := { stood := { row := saveTurnedUptoRow, standIns := [], harness := (true, "1ba1afe3470d3fa517a48c5913ddcaa9aacf30d027ea22714c208d22600cbf33"), looks := true }, kinds := [], alts := [], laidByText := true, laidKinds := [.data, .data, .data, .data, .handle, .pinned], laidTests := true, laidLooks := .later }
def SaveTurnedUptoCardSaid : Prop := Claim7.holds Tryd.pinned (.plain (OpenSpec.upto saveTurnedSpec)) saveTurnedUptoCard
end Rows
end Go.Proofs.YtpohbjomjngmeaaDoor
