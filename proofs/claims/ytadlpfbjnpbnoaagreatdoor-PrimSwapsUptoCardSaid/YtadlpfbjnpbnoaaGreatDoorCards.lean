/-
  DERIVED. GIVEN WITH THE SEED: THE CARDS: each row of YtadlpfbjnpbnoaaGreatDoorRows.lean that lists a variable, with what it lists TIED to the program's text (the seventh form; the later family's looks); each row that meets fmt, with fmt's text TOLD by the authors' own Lean function (tested against real Go, not proved from fmt's source: count such statements apart). THE CARD IS WHAT COUNTS. Prove the row's statement (the work); the ties are given (YtadlpfbjnpbnoaaGreatDoorTie.lean); close each card by the builder's one call (the guide's Derived/Test/ToyasCard.lean, 'card_holds'). Laid BY PROGRAM, IN A SANDBOX (cutbox-door.mjs). By AI agents, Wed Nov 11 2026. No macro, syntax, notation, axiom, sorry.
-/
import Derived.Test.YtadlpfbjnpbnoaaGreatDoorRows
import GoSem.ClaimSeven
namespace Go.Proofs.YtadlpfbjnpbnoaaGreatDoor
namespace Rows

/-- THE TIED CARD OF 'ravelinlaw5.PrimTwos'. -/
def primTwosCard : Claim7 := { stood := { row := primTwosRow, standIns := [], harness := (true, "73ac0cbcf5bae0c99458bbb56bed741dda54341b7c0dd3f887e95fcdcd6fc010"), looks := true }, kinds := [], alts := [], laidByText := true, laidKinds := [.handle], laidTests := true, laidLooks := .later }
def PrimTwosCardSaid : Prop := Claim7.holds Tryz.pinned (.plain (OpenSpec.ofChange primTwosSpec)) primTwosCard

/-- THE TIED CARD OF 'ravelinlaw5.PrimOnes'. -/
def primOnesCard : Claim7 := { stood := { row := primOnesRow, standIns := [], harness := (true, "73ac0cbcf5bae0c99458bbb56bed741dda54341b7c0dd3f887e95fcdcd6fc010"), looks := true }, kinds := [], alts := [], laidByText := true, laidKinds := [.handle], laidTests := true, laidLooks := .later }
def PrimOnesCardSaid : Prop := Claim7.holds Tryz.pinned (.plain (OpenSpec.ofChange primOnesSpec)) primOnesCard

/-- THE TIED CARD OF 'ravelinlaw5.PrimSwaps'. -/
def primSwapsCard : Claim7 := { stood := { row := primSwapsRow, standIns := [], harness := (true, "73ac0cbcf5bae0c99458bbb56bed741dda54341b7c0dd3f887e95fcdcd6fc010"), looks := true }, kinds := [], alts := [], laidByText := true, laidKinds := [.handle], laidTests := true, laidLooks := .later }
def PrimSwapsCardSaid : Prop := Claim7.holds Tryz.pinned (.plain (OpenSpec.ofChange primSwapsSpec)) primSwapsCard

/-- THE SECOND FORM's CARD OF 'ravelinlaw5.PrimTwos'. -/
def primTwosUptoCard : Claim7 := { stood := { row := primTwosUptoRow, standIns := [], harness := (true, "73ac0cbcf5bae0c99458bbb56bed741dda54341b7c0dd3f887e95fcdcd6fc010"), looks := true }, kinds := [], alts := [], laidByText := true, laidKinds := [.handle], laidTests := true, laidLooks := .later }
def PrimTwosUptoCardSaid : Prop := Claim7.holds Tryz.pinned (.plain (OpenSpec.upto primTwosSpec)) primTwosUptoCard

/-- THE SECOND FORM's CARD OF 'ravelinlaw5.PrimOnes'. -/
def primOnesUptoCard : Claim7 := { stood := { row := primOnesUptoRow, standIns := [], harness := (true, "73ac0cbcf5bae0c99458bbb56bed741dda54341b7c0dd3f887e95fcdcd6fc010"), looks := true }, kinds := [], alts := [], laidByText := true, laidKinds := [.handle], laidTests := true, laidLooks := .later }
def PrimOnesUptoCardSaid : Prop := Claim7.holds Tryz.pinned (.plain (OpenSpec.upto primOnesSpec)) primOnesUptoCard

/-- THE SECOND FORM's CARD OF 'ravelinlaw5.PrimSwaps'. -/
def primSwapsUptoCard : Claim7 := { stood := { row := primSwapsUptoRow, standIns := [], harness := (true, "73ac0cbcf5bae0c99458bbb56bed741dda54341b7c0dd3f887e95fcdcd6fc010"), looks := true }, kinds := [], alts := [], laidByText := true, laidKinds := [.handle], laidTests := true, laidLooks := .later }
def PrimSwapsUptoCardSaid : Prop := Claim7.holds Tryz.pinned (.plain (OpenSpec.upto primSwapsSpec)) primSwapsUptoCard
end Rows
end Go.Proofs.YtadlpfbjnpbnoaaGreatDoor
