/-
  NARROWER THAN 'FOR EVERY INPUT', by the rows' own cells (each row's printed sentence says how): PrimTwos: laid · PrimOnes: laid · PrimSwaps: laid.
  DERIVED. THE GIVEN ROWS OF THIS SEAT. 3 by the template 'for every input the law returns true; each argument reads behind the call as it read before'; 0 by the template 'total and deterministic' (their statements: YtadlpfbjnpbnoaaGreatDoorTotals.lean).
  GIVEN WITH THE SEED: the statements are not yours to turn. If you find one false, say at which input.
  Laid BY PROGRAM, IN A SANDBOX (cutbox-rows.mjs): the forced cells as the released guide's own fill.sh prints them over the translation b43318846cdc848e… (all of the seat's roots in one cut). By AI agents, Wed Nov 11 2026. No macro, syntax, notation, axiom, sorry.
-/
import Derived.Test.YtadlpfbjnpbnoaaGreatDoorChecked
import GoSem.Claim
import GoSem.ClaimJoined
import GoSem.ClaimMapViews
import Derived.JoinedTies
import Derived.KernelRfl
namespace Go.Proofs.YtadlpfbjnpbnoaaGreatDoor
/- THE CELL 'sum', in the pinned program and in every row, IS THE sha256 OF THE DUMP (.gsa) THAT YtadlpfbjnpbnoaaGreatDoorProg.lean LOADS. Nothing in Lean hashes anything: it is a label: what it is worth is what the hold of that sum in a sandbox is worth. -/
noncomputable def Tryz.pinned : Pinned := { name := "ytadlpfbjnpbnoaagreatdoor", sum := "b43318846cdc848e765017bf47268b883a64710c01b17ee23b826e2478f2c440", checked := Tryz.checked }
namespace Rows
def none {H : Type} : Left H := { results := [], args := [] }

/- WHAT THE LISTED PACKAGE-LEVEL VARIABLES READ AS WHEN THE CALL BEGINS. Each datum BY PROGRAM (the guide's laid-datum.mjs) off the statement by which the dump's own 'gosem.cut.vars' lays the variable. In a bare row this is a premise. The card (YtadlpfbjnpbnoaaGreatDoorCards.lean) ties it to the program's text. -/
def laid_errors_errorType {H : Type} : DataW H := .iface "internal/reflectlite.rtype" (.agg [.ptr (.lit (.string [101, 114, 114, 111, 114]))])

/-- 'ravelinlaw5.PrimTwos': WHATEVER THE INPUT: true; the input reads as it did. -/
def primTwosSpec : ChangeSpec := { name := "primTwos", fn := fun _ => fun
  | [d1, d2, d3] => { results := [.lit (.bool true)], args := [d1, d2, d3] }
  | _ => none }
def primTwosRow : OpenClaim := { program := "ytadlpfbjnpbnoaagreatdoor", sum := "b43318846cdc848e765017bf47268b883a64710c01b17ee23b826e2478f2c440", func := "ravelin/ravelinlaw5.PrimTwos", spec := "primTwos", inPlace := ["internal/reflectlite.ValueOf", "(internal/reflectlite.Value).Type", "(internal/reflectlite.Value).IsNil", "internal/reflectlite.TypeOf", "(internal/reflectlite.Value).Elem", "(internal/reflectlite.Value).Set"], unfollowed := true, recurses := true, named := ["errors.errorType"], apart := false, laid := [("errors.errorType", laid_errors_errorType)] }
def PrimTwosSaid : Prop := primTwosRow.holds Tryz.pinned (OpenSpec.ofChange primTwosSpec)

/-- ITS FALSE NEIGHBOUR: 'it returns false'. Refute it at one input. -/
def primTwosWrong : ChangeSpec := { name := "primTwos", fn := fun _ => fun
  | [d1, d2, d3] => { results := [.lit (.bool false)], args := [d1, d2, d3] }
  | _ => none }
def PrimTwosWrongFalsely : Prop := primTwosRow.holds Tryz.pinned (OpenSpec.ofChange primTwosWrong)

/-- 'ravelinlaw5.PrimOnes': WHATEVER THE INPUT: true; the input reads as it did. -/
def primOnesSpec : ChangeSpec := { name := "primOnes", fn := fun _ => fun
  | [d1, d2] => { results := [.lit (.bool true)], args := [d1, d2] }
  | _ => none }
def primOnesRow : OpenClaim := { program := "ytadlpfbjnpbnoaagreatdoor", sum := "b43318846cdc848e765017bf47268b883a64710c01b17ee23b826e2478f2c440", func := "ravelin/ravelinlaw5.PrimOnes", spec := "primOnes", inPlace := ["internal/reflectlite.ValueOf", "(internal/reflectlite.Value).Type", "(internal/reflectlite.Value).IsNil", "internal/reflectlite.TypeOf", "(internal/reflectlite.Value).Elem", "(internal/reflectlite.Value).Set"], unfollowed := true, recurses := true, named := ["errors.errorType"], apart := false, laid := [("errors.errorType", laid_errors_errorType)] }
def PrimOnesSaid : Prop := primOnesRow.holds Tryz.pinned (OpenSpec.ofChange primOnesSpec)

/-- ITS FALSE NEIGHBOUR: 'it returns false'. Refute it at one input. -/
def primOnesWrong : ChangeSpec := { name := "primOnes", fn := fun _ => fun
  | [d1, d2] => { results := [.lit (.bool false)], args := [d1, d2] }
  | _ => none }
def PrimOnesWrongFalsely : Prop := primOnesRow.holds Tryz.pinned (OpenSpec.ofChange primOnesWrong)

/-- 'ravelinlaw5.PrimSwaps': WHATEVER THE INPUT: true; the input reads as it did. -/
def primSwapsSpec : ChangeSpec := { name := "primSwaps", fn := fun _ => fun
  | [d1, d2, d3] => { results := [.lit (.bool true)], args := [d1, d2, d3] }
  | _ => none }
def primSwapsRow : OpenClaim := { program := "ytadlpfbjnpbnoaagreatdoor", sum := "b43318846cdc848e765017bf47268b883a64710c01b17ee23b826e2478f2c440", func := "ravelin/ravelinlaw5.PrimSwaps", spec := "primSwaps", inPlace := ["internal/reflectlite.ValueOf", "(internal/reflectlite.Value).Type", "(internal/reflectlite.Value).IsNil", "internal/reflectlite.TypeOf", "(internal/reflectlite.Value).Elem", "(internal/reflectlite.Value).Set"], unfollowed := true, recurses := true, named := ["errors.errorType"], apart := false, laid := [("errors.errorType", laid_errors_errorType)] }
def PrimSwapsSaid : Prop := primSwapsRow.holds Tryz.pinned (OpenSpec.ofChange primSwapsSpec)

/-- ITS FALSE NEIGHBOUR: 'it returns false'. Refute it at one input. -/
def primSwapsWrong : ChangeSpec := { name := "primSwaps", fn := fun _ => fun
  | [d1, d2, d3] => { results := [.lit (.bool false)], args := [d1, d2, d3] }
  | _ => none }
def PrimSwapsWrongFalsely : Prop := primSwapsRow.holds Tryz.pinned (OpenSpec.ofChange primSwapsWrong)

/- THE SECOND FORM. 'bulk': how many values and letters a reading holds, each counted each time it is reached (what is shared counts as often as it is met; a slice's spare places count too). A statement '..UptoSaid' is the law's where the arguments, and the package variables that the reading takes, are together of bulk at most 1048576: NARROWER than '..Said'. Prove '..Said' where nothing that the law and all that it calls make is longer than what came in: it says more and counts as full. Else prove '..UptoSaid'. A law counts once. -/
mutual
def uptoBulk {H : Type} : DataW H → Nat
  | .lit (.string bytes) => bytes.length + 1
  | .lit _ => 1
  | .nil => 1
  | .ptr d => uptoBulk d + 1
  | .slice elems spare => uptoBulkAll elems + uptoBulkAll spare + 1
  | .agg parts => uptoBulkAll parts + 1
  | .iface _ d => uptoBulk d + 1
  | .map entries => uptoBulkEntries entries + 1
  | .held _ => 1
def uptoBulkAll {H : Type} : List (DataW H) → Nat
  | [] => 0
  | d :: r => uptoBulk d + uptoBulkAll r
def uptoBulkEntries {H : Type} : List (Lit × DataW H) → Nat
  | [] => 0
  | x :: r => uptoBulkEntry x + uptoBulkEntries r
def uptoBulkEntry {H : Type} : Lit × DataW H → Nat
  | (.string bytes, d) => bytes.length + uptoBulk d + 1
  | (_, d) => uptoBulk d + 1
 end
def uptoSmall : (H : Type) → List (DataW H) → Bool := fun _ ds => decide (uptoBulkAll ds ≤ 1048576)
def OpenSpec.upto (s : _root_.Go.ChangeSpec) : _root_.Go.OpenSpec := { _root_.Go.OpenSpec.ofChange s with cond := some uptoSmall }

/-- 'ravelinlaw5.PrimTwos', WHERE WHAT IT READS IS OF BULK AT MOST 1048576: true; the input reads as it did. -/
def primTwosUptoRow : OpenClaim := { program := "ytadlpfbjnpbnoaagreatdoor", sum := "b43318846cdc848e765017bf47268b883a64710c01b17ee23b826e2478f2c440", func := "ravelin/ravelinlaw5.PrimTwos", spec := "primTwos", inPlace := ["internal/reflectlite.ValueOf", "(internal/reflectlite.Value).Type", "(internal/reflectlite.Value).IsNil", "internal/reflectlite.TypeOf", "(internal/reflectlite.Value).Elem", "(internal/reflectlite.Value).Set"], unfollowed := true, recurses := true, named := ["errors.errorType"], apart := false, laid := [("errors.errorType", laid_errors_errorType)], narrowed := true }
def PrimTwosUptoSaid : Prop := primTwosUptoRow.holds Tryz.pinned (OpenSpec.upto primTwosSpec)

/-- 'ravelinlaw5.PrimOnes', WHERE WHAT IT READS IS OF BULK AT MOST 1048576: true; the input reads as it did. -/
def primOnesUptoRow : OpenClaim := { program := "ytadlpfbjnpbnoaagreatdoor", sum := "b43318846cdc848e765017bf47268b883a64710c01b17ee23b826e2478f2c440", func := "ravelin/ravelinlaw5.PrimOnes", spec := "primOnes", inPlace := ["internal/reflectlite.ValueOf", "(internal/reflectlite.Value).Type", "(internal/reflectlite.Value).IsNil", "internal/reflectlite.TypeOf", "(internal/reflectlite.Value).Elem", "(internal/reflectlite.Value).Set"], unfollowed := true, recurses := true, named := ["errors.errorType"], apart := false, laid := [("errors.errorType", laid_errors_errorType)], narrowed := true }
def PrimOnesUptoSaid : Prop := primOnesUptoRow.holds Tryz.pinned (OpenSpec.upto primOnesSpec)

/-- 'ravelinlaw5.PrimSwaps', WHERE WHAT IT READS IS OF BULK AT MOST 1048576: true; the input reads as it did. -/
def primSwapsUptoRow : OpenClaim := { program := "ytadlpfbjnpbnoaagreatdoor", sum := "b43318846cdc848e765017bf47268b883a64710c01b17ee23b826e2478f2c440", func := "ravelin/ravelinlaw5.PrimSwaps", spec := "primSwaps", inPlace := ["internal/reflectlite.ValueOf", "(internal/reflectlite.Value).Type", "(internal/reflectlite.Value).IsNil", "internal/reflectlite.TypeOf", "(internal/reflectlite.Value).Elem", "(internal/reflectlite.Value).Set"], unfollowed := true, recurses := true, named := ["errors.errorType"], apart := false, laid := [("errors.errorType", laid_errors_errorType)], narrowed := true }
def PrimSwapsUptoSaid : Prop := primSwapsUptoRow.holds Tryz.pinned (OpenSpec.upto primSwapsSpec)

end Rows
end Go.Proofs.YtadlpfbjnpbnoaaGreatDoor
