/-
  Whatever EvalChecks is called with, it returns true, and what it was given reads behind the call as it read before: its card. (Written by a program of this repo, gencard.py; split from the row by hand.)
-/
import Derived.Test.YtllgkdkjcbohcaaGreatDoorZEvalChecksSaid
namespace Go.Proofs.YtllgkdkjcbohcaaGreatDoor
theorem evalChecks_wf : Rows.evalChecksUptoRow.wfByText (Rows.OpenSpec.upto Rows.evalChecksSpec) = true := by kernel_rfl
theorem evalChecks_main : Tryz.pinned.checked.prog.mainIs = some (true, "fa3cf4ee48eff07d156f6909748042480afb6af1aa6f0e016904e1587a47e2ad".toList) := by kernel_rfl
theorem evalChecks_goes : false = Rows.evalChecksUptoRow.goesBy Tryz.pinned.checked.prog := by kernel_rfl
/-- THE CARD -/
theorem evalChecks_card : Rows.EvalChecksUptoCardSaid :=
  Claim7.holds_tied_plain_at .later [] _ _ _ _ fnEvalChecks.said (fun _ h => by cases h) evalChecks_wf (fun _ h => by cases h) evalChecksUpto_row_tie rfl ⟨rfl, rfl⟩ evalChecks_main rfl fnEvalChecks.plain evalChecks_goes
end Go.Proofs.YtllgkdkjcbohcaaGreatDoor
