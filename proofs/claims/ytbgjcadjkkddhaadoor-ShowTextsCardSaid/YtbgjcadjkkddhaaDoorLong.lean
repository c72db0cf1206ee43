/-
  ravelinref5.long: how many runes a text has.
-/
import Derived.Test.YtbgjcadjkkddhaaDoorRunes
namespace Go.Proofs.YtbgjcadjkkddhaaDoor
open Go.RowKit

set_option maxHeartbeats 1000000 in
theorem ref_long (s : ByteArray) (w : World) (hs : s.size ≤ 17592186044416) : Calls Tryd.prog 45 #[.string s] w fun r w' => r = .returned (.int .i64 (((runesL s.data.toList).getD []).length : Nat)) ∧ Below w.heap.size w w' := by
  have hR : Calls Tryd.prog 19 #[.string s] w fun r w' => Below w.heap.size w w' ∧ ∃ p cap ok, r = .returned (.tuple #[.slice p ((runesL s.data.toList).getD []).length cap, .bool ok]) := by
    refine (ref_Runes s w hs).mono ?_
    rintro r w' ⟨hb, h⟩
    rcases h with ⟨h1, rfl⟩ | ⟨cs, p, cap, h1, rfl, hx⟩
    · rw [h1]; exact ⟨hb, _, _, _, rfl⟩
    · rw [h1]; exact ⟨hb, _, _, _, rfl⟩
  obtain ⟨n, hn⟩ : ∃ n, n = ((runesL s.data.toList).getD []).length := ⟨_, rfl⟩
  rw [← hn] at hR ⊢
  clear hn
  go_enter Tryd.func45, Tryd.ntmps45
  go_wp2_with (go_at_call 19; refine hR.mono ?_; rintro r w' ⟨hb, p, cap, ok, rfl⟩)
  go_ret
  exact ⟨rfl, hb⟩
end Go.Proofs.YtbgjcadjkkddhaaDoor
