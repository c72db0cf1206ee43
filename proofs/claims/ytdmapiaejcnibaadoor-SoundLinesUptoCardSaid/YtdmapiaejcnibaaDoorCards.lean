/-
  DERIVED. GIVEN WITH THE SEED: THE CARDS: each row of YtdmapiaejcnibaaDoorRows.lean that lists a variable, with what it lists TIED to the program's text (the seventh form; the later family's looks); each row that meets fmt, with fmt's text TOLD by the authors' own Lean function (tested against real Go, not proved from fmt's source: count such statements apart). THE CARD IS WHAT COUNTS. Prove the row's statement (the work); the ties are given (YtdmapiaejcnibaaDoorTie.lean); close each card by the builder's one call (the guide's Derived/Test/ToyasCard.lean, 'card_holds'). Laid BY PROGRAM, IN A SANDBOX (cutbox-door.mjs). By AI agents, Wed Nov 11 2026. No macro, syntax, notation, axiom, sorry.
-/
import Derived.Test.YtdmapiaejcnibaaDoorRows
import GoSem.ClaimSeven
namespace Go.Proofs.YtdmapiaejcnibaaDoor
namespace Rows

/-- THE TIED CARD OF 'ravelinlaw5.TreeBrackets'. -/
def treeBracketsCard : Claim7 := { stood := { row := treeBracketsRow, standIns := [], harness := (true, "47e8e1430bde4cc52b5d24b487f16733ecdfdc0639808876d9acb95c42e5ac8d"), looks := true }, kinds := [], alts := [], laidByText := true, laidKinds := [.data, .data, .data, .data, .pinned], laidTests := true, laidLooks := .later }
def TreeBracketsCardSaid : Prop := Claim7.holds Tryd.pinned (.plain (OpenSpec.ofChange treeBracketsSpec)) treeBracketsCard

/-- THE TIED CARD OF 'ravelinlaw6.CodeCounts'. -/
def codeCountsCard : Claim7 := { stood := { row := codeCountsRow, standIns := [], harness := (true, "47e8e1430bde4cc52b5d24b487f16733ecdfdc0639808876d9acb95c42e5ac8d"), looks := true }, kinds := [], alts := [], laidByText := true, laidKinds := [.data, .data, .data, .data, .pinned], laidTests := true, laidLooks := .later }
def CodeCountsCardSaid : Prop := Claim7.holds Tryd.pinned (.plain (OpenSpec.ofChange codeCountsSpec)) codeCountsCard

/-- THE TIED CARD OF 'ravelinlaw6.CodeSets'. -/
def codeSetsCard : Claim7 := { stood := { row := codeSetsRow, standIns := [], harness := (true, "47e8e1430bde4cc52b5d24b487f16733ecdfdc0639808876d9acb95c42e5ac8d"), looks := true }, kinds := [], alts := [], laidByText := true, laidKinds := [.data, .data, .data, .data, .pinned], laidTests := true, laidLooks := .later }
def CodeSetsCardSaid : Prop := Claim7.holds Tryd.pinned (.plain (OpenSpec.ofChange codeSetsSpec)) codeSetsCard

/-- THE TIED CARD OF 'ravelinlaw6.SoundLines'. -/
def soundLinesCard : Claim7 := { stood := { row := soundLinesRow, standIns := [], harness := (true, "47e8e1430bde4cc52b5d24b487f16733ecdfdc0639808876d9acb95c42e5ac8d"), looks := true }, kinds := [], alts := [], laidByText := true, laidKinds := [.data, .data, .data, .data, .pinned], laidTests := true, laidLooks := .later }
def SoundLinesCardSaid : Prop := Claim7.holds Tryd.pinned (.plain (OpenSpec.ofChange soundLinesSpec)) soundLinesCard

/-- THE TIED CARD OF 'ravelinlaw5.TreeBack'. -/
def treeBackCard : Claim7 := { stood := { row := treeBackRow, standIns := [], harness := (true, "47e8e1430bde4cc52b5d24b487f16733ecdfdc0639808876d9acb95c42e5ac8d"), looks := true }, kinds := [], alts := [], laidByText := true, laidKinds := [.data, .data, .data, .data, .pinned], laidTests := true, laidLooks := .later }
def TreeBackCardSaid : Prop := Claim7.holds Tryd.pinned (.plain (OpenSpec.ofChange treeBackSpec)) treeBackCard

/-- THE SECOND FORM's CARD OF 'ravelinlaw5.TreeBrackets'. -/
def treeBracketsUptoCard : Claim7 := { stood := { row := treeBracketsUptoRow, standIns := [], harness := (true, "47e8e1430bde4cc52b5d24b487f16733ecdfdc0639808876d9acb95c42e5ac8d"), looks := true }, kinds := [], alts := [], laidByText := true, laidKinds := [.data, .data, .data, .data, .pinned], laidTests := true, laidLooks := .later }
def TreeBracketsUptoCardSaid : Prop := Claim7.holds Tryd.pinned (.plain (OpenSpec.upto treeBracketsSpec)) treeBracketsUptoCard

/-- THE SECOND FORM's CARD OF 'ravelinlaw6.CodeCounts'. -/
def codeCountsUptoCard : Claim7 := { stood := { row := codeCountsUptoRow, standIns := [], harness := (true, "47e8e1430bde4cc52b5d24b487f16733ecdfdc0639808876d9acb95c42e5ac8d"), looks := true }, kinds := [], alts := [], laidByText := true, laidKinds := [.data, .data, .data, .data, .pinned], laidTests := true, laidLooks := .later }
def CodeCountsUptoCardSaid : Prop := Claim7.holds Tryd.pinned (.plain (OpenSpec.upto codeCountsSpec)) codeCountsUptoCard

/-- THE SECOND FORM's CARD OF 'ravelinlaw6.CodeSets'. -/
def codeSetsUptoCard : Claim7 := { stood := { row := codeSetsUptoRow, standIns := [], harness := (true, "47e8e1430bde4cc52b5d24b487f16733ecdfdc0639808876d9acb95c42e5ac8d"), looks := true }, kinds := [], alts := [], laidByText := true, laidKinds := [.data, .data, .data, .data, .pinned], laidTests := true, laidLooks := .later }
def CodeSetsUptoCardSaid : Prop := Claim7.holds Tryd.pinned (.plain (OpenSpec.upto codeSetsSpec)) codeSetsUptoCard

/-- THE SECOND FORM's CARD OF 'ravelinlaw6.SoundLines'. -/
def soundLinesUptoCard : Claim7 := { stood := { row := soundLinesUptoRow, standIns := [], harness := (true, "47e8e1430bde4cc52b5d24b487f16733ecdfdc0639808876d9acb95c42e5ac8d"), looks := true }, kinds := [], alts := [], laidByText := true, laidKinds := [.data, .data, .data, .data, .pinned], laidTests := true, laidLooks := .later }
def SoundLinesUptoCardSaid : Prop := Claim7.holds Tryd.pinned (.plain (OpenSpec.upto soundLinesSpec)) soundLinesUptoCard

/-- THE SECOND FORM's CARD OF 'ravelinlaw5.TreeBack'. -/
def treeBackUptoCard : Claim7 := { stood := { row := treeBackUptoRow, standIns := [], harness := (true, "47e8e1430bde4cc52b5d24b487f16733ecdfdc0639808876d9acb95c42e5ac8d"), looks := true }, kinds := [], alts := [], laidByText := true, laidKinds := [.data, .data, .data, .data, .pinned], laidTests := true, laidLooks := .later }
def TreeBackUptoCardSaid : Prop := Claim7.holds Tryd.pinned (.plain (OpenSpec.upto treeBackSpec)) treeBackUptoCard
end Rows
end Go.Proofs.YtdmapiaejcnibaaDoor
