/-
  DERIVED. GIVEN WITH THE SEED: THE CARDS: each row of YtgjmgmejojbdeaaDoorRows.lean that lists a variable, with what it lists TIED to the program's text (the seventh form; the later family's looks); each row that meets fmt, with fmt's text TOLD by the authors' own Lean function (tested against real Go, not proved from fmt's source: count such statements apart). THE CARD IS WHAT COUNTS. Prove the row's statement (the work); the ties are given (YtgjmgmejojbdeaaDoorTie.lean); close each card by the builder's one call (the guide's Derived/Test/ToyasCard.lean, 'card_holds'). Laid BY PROGRAM, IN A SANDBOX (cutbox-door.mjs). By AI agents, Wed Nov 11 2026. No macro, syntax, notation, axiom, sorry.
-/
import Derived.Test.YtgjmgmejojbdeaaDoorRows
import GoSem.ClaimSeven
namespace Go.Proofs.YtgjmgmejojbdeaaDoor
namespace Rows

/-- THE TIED CARD OF 'ravelinlaw5.TreeBrackets'. -/
def treeBracketsCard : Claim7 := { stood := { row := treeBracketsRow, standIns := [], harness := (true, "8c708767ce4cac26c39a7a8c40064b5e65e713d16995fe747e1ae1736539415a"), looks := true }, kinds := [], alts := [], laidByText := true, laidKinds := [.data, .data, .data, .data, .pinned], laidTests := true, laidLooks := .later }
def TreeBracketsCardSaid : Prop := Claim7.holds Tryd.pinned (.plain (OpenSpec.ofChange treeBracketsSpec)) treeBracketsCard

/-- THE TIED CARD OF 'ravelinlaw5.TreeBack'. -/
def treeBackCard : Claim7 := { stood := { row := treeBackRow, standIns := [], harness := (true, "8c708767ce4cac26c39a7a8c40064b5e65e713d16995fe747e1ae1736539415a"), looks := true }, kinds := [], alts := [], laidByText := true, laidKinds := [.data, .data, .data, .data, .pinned], laidTests := true, laidLooks := .later }
def TreeBackCardSaid : Prop := Claim7.holds Tryd.pinned (.plain (OpenSpec.ofChange treeBackSpec)) treeBackCard

/-- THE SECOND FORM's CARD OF 'ravelinlaw5.TreeBrackets'. -/
def treeBracketsUptoCard : Claim7 := { stood := { row := treeBracketsUptoRow, standIns := [], harness := (true, "8c708767ce4cac26c39a7a8c40064b5e65e713d16995fe747e1ae1736539415a"), looks := true }, kinds := [], alts := [], laidByText := true, laidKinds := [.data, .data, .data, .data, .pinned], laidTests := true, laidLooks := .later }
def TreeBracketsUptoCardSaid : Prop := Claim7.holds Tryd.pinned (.plain (OpenSpec.upto treeBracketsSpec)) treeBracketsUptoCard

/-- THE SECOND FORM's CARD OF 'ravelinlaw5.TreeBack'. -/
def treeBackUptoCard : Claim7 := { stood := { row := treeBackUptoRow, standIns := [], harness := (true, "8c708767ce4cac26c39a7a8c40064b5e65e713d16995fe747e1ae1736539415a"), looks := true }, kinds := [], alts := [], laidByText := true, laidKinds := [.data, .data, .data, .data, .pinned], laidTests := true, laidLooks := .later }
def TreeBackUptoCardSaid : Prop := Claim7.holds Tryd.pinned (.plain (OpenSpec.upto treeBackSpec)) treeBackUptoCard
end Rows
end Go.Proofs.YtgjmgmejojbdeaaDoor
