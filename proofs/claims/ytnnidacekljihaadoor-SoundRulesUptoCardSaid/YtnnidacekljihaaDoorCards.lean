/-
  DERIVED. GIVEN WITH THE SEED: THE CARDS: each row of YtnnidacekljihaaDoorRows.lean that lists a variable, with what it lists TIED to the program's text (the seventh form; the later family's looks); each row that meets fmt, with fmt's text TOLD by the authors' own Lean function (tested against real Go, not proved from fmt's source: count such statements apart). THE CARD IS WHAT COUNTS. Prove the row's statement (the work); the ties are given (YtnnidacekljihaaDoorTie.lean); close each card by the builder's one call (the guide's Derived/Test/ToyasCard.lean, 'card_holds'). Laid BY PROGRAM, IN A SANDBOX (cutbox-door.mjs). By AI agents, Wed Nov 11 2026. No macro, syntax, notation, axiom, sorry.
-/
import Derived.Test.YtnnidacekljihaaDoorRows
import GoSem.ClaimSeven
namespace Go.Proofs.YtnnidacekljihaaDoor
namespace Rows

/-- THE TIED CARD OF 'ravelinlaw6.SoundRules'. -/
def soundRulesCard : Claim7 := { stood := { row := soundRulesRow, standIns := [], harness := (true, "5c97ee679f6cb7fd64ddcfe5b32a82cf03bce05fec1e22012c2cc6f40de21cbf"), looks := true }, kinds := [], alts := [], laidByText := true, laidKinds := [.data, .data, .data, .data, .pinned], laidTests := true, laidLooks := .later }
def SoundRulesCardSaid : Prop := Claim7.holds Tryd.pinned (.plain (OpenSpec.ofChange soundRulesSpec)) soundRulesCard

/-- THE TIED CARD OF 'ravelinlaw6.SoundDepths'. -/
def soundDepthsCard : Claim7 := { stood := { row := soundDepthsRow, standIns := [], harness := (true, "5c97ee679f6cb7fd64ddcfe5b32a82cf03bce05fec1e22012c2cc6f40de21cbf"), looks := true }, kinds := [], alts := [], laidByText := true, laidKinds := [.data, .data, .data, .data, .handle, .pinned], laidTests := true, laidLooks := .later }
def SoundDepthsCardSaid : Prop := Claim7.holds Tryd.pinned (.plain (OpenSpec.ofChange soundDepthsSpec)) soundDepthsCard

/-- THE SECOND FORM's CARD OF 'ravelinlaw6.SoundRules'. -/
def soundRulesUptoCard : Claim7 := { stood := { row := soundRulesUptoRow, standIns := [], harness := (true, "5c97ee679f6cb7fd64ddcfe5b32a82cf03bce05fec1e22012c2cc6f40de21cbf"), looks := true }, kinds := [], alts := [], laidByText := true, laidKinds := [.data, .data, .data, .data, .pinned], laidTests := true, laidLooks := .later }
def SoundRulesUptoCardSaid : Prop := Claim7.holds Tryd.pinned (.plain (OpenSpec.upto soundRulesSpec)) soundRulesUptoCard

/-- THE SECOND FORM's CARD OF 'ravelinlaw6.SoundDepths'. -/
def soundDepthsUptoCard : Claim7 := { stood := { row := soundDepthsUptoRow, standIns := [], harness := (true, "5c97ee679f6cb7fd64ddcfe5b32a82cf03bce05fec1e22012c2cc6f40de21cbf"), looks := true }, kinds := [], alts := [], laidByText := true, laidKinds := [.data, .data, .data, .data, .handle, .pinned], laidTests := true, laidLooks := .later }
def SoundDepthsUptoCardSaid : Prop := Claim7.holds Tryd.pinned (.plain (OpenSpec.upto soundDepthsSpec)) soundDepthsUptoCard
end Rows
end Go.Proofs.YtnnidacekljihaaDoor
