/-
  DERIVED. GIVEN WITH THE SEED: THE CARDS: each row of YtllgkdkjcbohcaaGreatDoorRows.lean that lists a variable, with what it lists TIED to the program's text (the seventh form; the later family's looks); each row that meets fmt, with fmt's text TOLD by the authors' own Lean function (tested against real Go, not proved from fmt's source: count such statements apart). THE CARD IS WHAT COUNTS. Prove the row's statement (the work); the ties are given (YtllgkdkjcbohcaaGreatDoorTie.lean); close each card by the builder's one call (the guide's Derived/Test/ToyasCard.lean, 'card_holds'). Laid BY PROGRAM, IN A SANDBOX (cutbox-door.mjs). By AI agents, Wed Nov 11 2026. No macro, syntax, notation, axiom, sorry.
-/
import Derived.Test.YtllgkdkjcbohcaaGreatDoorRows
import GoSem.ClaimSeven
namespace Go.Proofs.YtllgkdkjcbohcaaGreatDoor
namespace Rows

/-- THE TIED CARD OF 'ravelinlaw7.OptDone'. -/
def optDoneCard : Claim7 := { stood := { row := optDoneRow, standIns := [], harness := (true, "fa3cf4ee48eff07d156f6909748042480afb6af1aa6f0e016904e1587a47e2ad"), looks := true }, kinds := [], alts := [], laidByText := true, laidKinds := [.data, .data, .data, .data, .pinned], laidTests := true, laidLooks := .later }
def OptDoneCardSaid : Prop := Claim7.holds Tryz.pinned (.plain (OpenSpec.ofChange optDoneSpec)) optDoneCard

/-- THE TIED CARD OF 'ravelinlaw7.OptStill'. -/
def optStillCard : Claim7 := { stood := { row := optStillRow, standIns := [], harness := (true, "fa3cf4ee48eff07d156f6909748042480afb6af1aa6f0e016904e1587a47e2ad"), looks := true }, kinds := [], alts := [], laidByText := true, laidKinds := [.data, .data, .data, .data, .pinned], laidTests := true, laidLooks := .later }
def OptStillCardSaid : Prop := Claim7.holds Tryz.pinned (.plain (OpenSpec.ofChange optStillSpec)) optStillCard

/-- THE TIED CARD OF 'ravelinlaw6.EvalGiven'. -/
def evalGivenCard : Claim7 := { stood := { row := evalGivenRow, standIns := [], harness := (true, "fa3cf4ee48eff07d156f6909748042480afb6af1aa6f0e016904e1587a47e2ad"), looks := true }, kinds := [], alts := [], laidByText := true, laidKinds := [.data, .data, .data, .data, .pinned], laidTests := true, laidLooks := .later }
def EvalGivenCardSaid : Prop := Claim7.holds Tryz.pinned (.plain (OpenSpec.ofChange evalGivenSpec)) evalGivenCard

/-- THE TIED CARD OF 'ravelinlaw6.EvalChoice'. -/
def evalChoiceCard : Claim7 := { stood := { row := evalChoiceRow, standIns := [], harness := (true, "fa3cf4ee48eff07d156f6909748042480afb6af1aa6f0e016904e1587a47e2ad"), looks := true }, kinds := [], alts := [], laidByText := true, laidKinds := [.data, .data, .data, .data, .pinned], laidTests := true, laidLooks := .later }
def EvalChoiceCardSaid : Prop := Claim7.holds Tryz.pinned (.plain (OpenSpec.ofChange evalChoiceSpec)) evalChoiceCard

/-- THE TIED CARD OF 'ravelinlaw6.VmSlices'. -/
def vmSlicesCard : Claim7 := { stood := { row := vmSlicesRow, standIns := [], harness := (true, "fa3cf4ee48eff07d156f6909748042480afb6af1aa6f0e016904e1587a47e2ad"), looks := true }, kinds := [], alts := [], laidByText := true, laidKinds := [.data, .data, .data, .data, .handle, .pinned], laidTests := true, laidLooks := .later }
def VmSlicesCardSaid : Prop := Claim7.holds Tryz.pinned (.plain (OpenSpec.ofChange vmSlicesSpec)) vmSlicesCard

/-- THE TIED CARD OF 'ravelinlaw6.VmNever'. -/
def vmNeverCard : Claim7 := { stood := { row := vmNeverRow, standIns := [], harness := (true, "fa3cf4ee48eff07d156f6909748042480afb6af1aa6f0e016904e1587a47e2ad"), looks := true }, kinds := [], alts := [], laidByText := true, laidKinds := [.data, .data, .data, .data, .handle, .pinned], laidTests := true, laidLooks := .later }
def VmNeverCardSaid : Prop := Claim7.holds Tryz.pinned (.plain (OpenSpec.ofChange vmNeverSpec)) vmNeverCard

/-- THE TIED CARD OF 'ravelinlaw6.VmStays'. -/
def vmStaysCard : Claim7 := { stood := { row := vmStaysRow, standIns := [], harness := (true, "fa3cf4ee48eff07d156f6909748042480afb6af1aa6f0e016904e1587a47e2ad"), looks := true }, kinds := [], alts := [], laidByText := true, laidKinds := [.data, .data, .data, .data, .handle, .pinned], laidTests := true, laidLooks := .later }
def VmStaysCardSaid : Prop := Claim7.holds Tryz.pinned (.plain (OpenSpec.ofChange vmStaysSpec)) vmStaysCard

/-- THE TIED CARD OF 'ravelinlaw6.EvalChecks'. -/
def evalChecksCard : Claim7 := { stood := { row := evalChecksRow, standIns := [], harness := (true, "fa3cf4ee48eff07d156f6909748042480afb6af1aa6f0e016904e1587a47e2ad"), looks := true }, kinds := [], alts := [], laidByText := true, laidKinds := [.data, .data, .data, .data, .handle, .pinned], laidTests := true, laidLooks := .later }
def EvalChecksCardSaid : Prop := Claim7.holds Tryz.pinned (.plain (OpenSpec.ofChange evalChecksSpec)) evalChecksCard

/-- THE TIED CARD OF 'ravelinlaw6.EvalFuel'. -/
def evalFuelCard : Claim7 := { stood := { row := evalFuelRow, standIns := [], harness := (true, "fa3cf4ee48eff07d156f6909748042480afb6af1aa6f0e016904e1587a47e2ad"), looks := true }, kinds := [], alts := [], laidByText := true, laidKinds := [.data, .data, .data, .data, .handle, .pinned], laidTests := true, laidLooks := .later }
def EvalFuelCardSaid : Prop := Claim7.holds Tryz.pinned (.plain (OpenSpec.ofChange evalFuelSpec)) evalFuelCard

/-- THE TIED CARD OF 'ravelinlaw6.EvalNames'. -/
def evalNamesCard : Claim7 := { stood := { row := evalNamesRow, standIns := [], harness := (true, "fa3cf4ee48eff07d156f6909748042480afb6af1aa6f0e016904e1587a47e2ad"), looks := true }, kinds := [], alts := [], laidByText := true, laidKinds := [.data, .data, .data, .data, .handle, .pinned], laidTests := true, laidLooks := .later }
def EvalNamesCardSaid : Prop := Claim7.holds Tryz.pinned (.plain (OpenSpec.ofChange evalNamesSpec)) evalNamesCard

/-- THE TIED CARD OF 'ravelinlaw6.EvalSets'. -/
def evalSetsCard : Claim7 := { stood := { row := evalSetsRow, standIns := [], harness := (true, "fa3cf4ee48eff07d156f6909748042480afb6af1aa6f0e016904e1587a47e2ad"), looks := true }, kinds := [], alts := [], laidByText := true, laidKinds := [.data, .data, .data, .data, .handle, .pinned], laidTests := true, laidLooks := .later }
def EvalSetsCardSaid : Prop := Claim7.holds Tryz.pinned (.plain (OpenSpec.ofChange evalSetsSpec)) evalSetsCard

/-- THE TIED CARD OF 'ravelinlaw6.VmMeans'. -/
def vmMeansCard : Claim7 := { stood := { row := vmMeansRow, standIns := [], harness := (true, "fa3cf4ee48eff07d156f6909748042480afb6af1aa6f0e016904e1587a47e2ad"), looks := true }, kinds := [], alts := [], laidByText := true, laidKinds := [.data, .data, .data, .data, .handle, .pinned], laidTests := true, laidLooks := .later }
def VmMeansCardSaid : Prop := Claim7.holds Tryz.pinned (.plain (OpenSpec.ofChange vmMeansSpec)) vmMeansCard

/-- THE SECOND FORM's CARD OF 'ravelinlaw7.OptDone'. -/
def optDoneUptoCard : Claim7 := { stood := { row := optDoneUptoRow, standIns := [], harness := (true, "fa3cf4ee48eff07d156f6909748042480afb6af1aa6f0e016904e1587a47e2ad"), looks := true }, kinds := [], alts := [], laidByText := true, laidKinds := [.data, .data, .data, .data, .pinned], laidTests := true, laidLooks := .later }
def OptDoneUptoCardSaid : Prop := Claim7.holds Tryz.pinned (.plain (OpenSpec.upto optDoneSpec)) optDoneUptoCard

/-- THE SECOND FORM's CARD OF 'ravelinlaw7.OptStill'. -/
def optStillUptoCard : Claim7 := { stood := { row := optStillUptoRow, standIns := [], harness := (true, "fa3cf4ee48eff07d156f6909748042480afb6af1aa6f0e016904e1587a47e2ad"), looks := true }, kinds := [], alts := [], laidByText := true, laidKinds := [.data, .data, .data, .data, .pinned], laidTests := true, laidLooks := .later }
def OptStillUptoCardSaid : Prop := Claim7.holds Tryz.pinned (.plain (OpenSpec.upto optStillSpec)) optStillUptoCard

/-- THE SECOND FORM's CARD OF 'ravelinlaw6.EvalGiven'. -/
def evalGivenUptoCard : Claim7 := { stood := { row := evalGivenUptoRow, standIns := [], harness := (true, "fa3cf4ee48eff07d156f6909748042480afb6af1aa6f0e016904e1587a47e2ad"), looks := true }, kinds := [], alts := [], laidByText := true, laidKinds := [.data, .data, .data, .data, .pinned], laidTests := true, laidLooks := .later }
def EvalGivenUptoCardSaid : Prop := Claim7.holds Tryz.pinned (.plain (OpenSpec.upto evalGivenSpec)) evalGivenUptoCard

/-- THE SECOND FORM's CARD OF 'ravelinlaw6.EvalChoice'. -/
def evalChoiceUptoCard : Claim7 := { stood := { row := evalChoiceUptoRow, standIns := [], harness := (true, "fa3cf4ee48eff07d156f6909748042480afb6af1aa6f0e016904e1587a47e2ad"), looks := true }, kinds := [], alts := [], laidByText := true, laidKinds := [.data, .data, .data, .data, .pinned], laidTests := true, laidLooks := .later }
def EvalChoiceUptoCardSaid : Prop := Claim7.holds Tryz.pinned (.plain (OpenSpec.upto evalChoiceSpec)) evalChoiceUptoCard

/-- THE SECOND FORM's CARD OF 'ravelinlaw6.VmSlices'. -/
def vmSlicesUptoCard : Claim7 := { stood := { row := vmSlicesUptoRow, standIns := [], harness := (true, "fa3cf4ee48eff07d156f6909748042480afb6af1aa6f0e016904e1587a47e2ad"), looks := true }, kinds := [], alts := [], laidByText := true, laidKinds := [.data, .data, .data, .data, .handle, .pinned], laidTests := true, laidLooks := .later }
def VmSlicesUptoCardSaid : Prop := Claim7.holds Tryz.pinned (.plain (OpenSpec.upto vmSlicesSpec)) vmSlicesUptoCard

/-- THE SECOND FORM's CARD OF 'ravelinlaw6.VmNever'. -/
def vmNeverUptoCard : Claim7 := { stood := { row := vmNeverUptoRow, standIns := [], harness := (true, "fa3cf4ee48eff07d156f6909748042480afb6af1aa6f0e016904e1587a47e2ad"), looks := true }, kinds := [], alts := [], laidByText := true, laidKinds := [.data, .data, .data, .data, .handle, .pinned], laidTests := true, laidLooks := .later }
def VmNeverUptoCardSaid : Prop := Claim7.holds Tryz.pinned (.plain (OpenSpec.upto vmNeverSpec)) vmNeverUptoCard

/-- THE SECOND FORM's CARD OF 'ravelinlaw6.VmStays'. -/
def vmStaysUptoCard : Claim7 := { stood := { row := vmStaysUptoRow, standIns := [], harness := (true, "fa3cf4ee48eff07d156f6909748042480afb6af1aa6f0e016904e1587a47e2ad"), looks := true }, kinds := [], alts := [], laidByText := true, laidKinds := [.data, .data, .data, .data, .handle, .pinned], laidTests := true, laidLooks := .later }
def VmStaysUptoCardSaid : Prop := Claim7.holds Tryz.pinned (.plain (OpenSpec.upto vmStaysSpec)) vmStaysUptoCard

/-- THE SECOND FORM's CARD OF 'ravelinlaw6.EvalChecks'. -/
def evalChecksUptoCard : Claim7 := { stood := { row := evalChecksUptoRow, standIns := [], harness := (true, "fa3cf4ee48eff07d156f6909748042480afb6af1aa6f0e016904e1587a47e2ad"), looks := true }, kinds := [], alts := [], laidByText := true, laidKinds := [.data, .data, .data, .data, .handle, .pinned], laidTests := true, laidLooks := .later }
def EvalChecksUptoCardSaid : Prop := Claim7.holds Tryz.pinned (.plain (OpenSpec.upto evalChecksSpec)) evalChecksUptoCard

/-- THE SECOND FORM's CARD OF 'ravelinlaw6.EvalFuel'. -/
def evalFuelUptoCard : Claim7 := { stood := { row := evalFuelUptoRow, standIns := [], harness := (true, "fa3cf4ee48eff07d156f6909748042480afb6af1aa6f0e016904e1587a47e2ad"), looks := true }, kinds := [], alts := [], laidByText := true, laidKinds := [.data, .data, .data, .data, .handle, .pinned], laidTests := true, laidLooks := .later }
def EvalFuelUptoCardSaid : Prop := Claim7.holds Tryz.pinned (.plain (OpenSpec.upto evalFuelSpec)) evalFuelUptoCard

/-- THE SECOND FORM's CARD OF 'ravelinlaw6.EvalNames'. -/
def evalNamesUptoCard : Claim7 := { stood := { row := evalNamesUptoRow, standIns := [], harness := (true, "fa3cf4ee48eff07d156f6909748042480afb6af1aa6f0e016904e1587a47e2ad"), looks := true }, kinds := [], alts := [], laidByText := true, laidKinds := [.data, .data, .data, .data, .handle, .pinned], laidTests := true, laidLooks := .later }
def EvalNamesUptoCardSaid : Prop := Claim7.holds Tryz.pinned (.plain (OpenSpec.upto evalNamesSpec)) evalNamesUptoCard

/-- THE SECOND FORM's CARD OF 'ravelinlaw6.EvalSets'. -/
def evalSetsUptoCard : Claim7 := { stood := { row := evalSetsUptoRow, standIns := [], harness := (true, "fa3cf4ee48eff07d156f6909748042480afb6af1aa6f0e016904e1587a47e2ad"), looks := true }, kinds := [], alts := [], laidByText := true, laidKinds := [.data, .data, .data, .data, .handle, .pinned], laidTests := true, laidLooks := .later }
def EvalSetsUptoCardSaid : Prop := Claim7.holds Tryz.pinned (.plain (OpenSpec.upto evalSetsSpec)) evalSetsUptoCard

/-- THE SECOND FORM's CARD OF 'ravelinlaw6.VmMeans'. -/
def vmMeansUptoCard : Claim7 := { stood := { row := vmMeansUptoRow, standIns := [], harness := (true, "fa3cf4ee48eff07d156f6909748042480afb6af1aa6f0e016904e1587a47e2ad"), looks := true }, kinds := [], alts := [], laidByText := true, laidKinds := [.data, .data, .data, .data, .handle, .pinned], laidTests := true, laidLooks := .later }
def VmMeansUptoCardSaid : Prop := Claim7.holds Tryz.pinned (.plain (OpenSpec.upto vmMeansSpec)) vmMeansUptoCard
end Rows
end Go.Proofs.YtllgkdkjcbohcaaGreatDoor
