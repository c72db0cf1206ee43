/-
  ravelinref3.Spelt of a number, ravelinref5.Numeral, Encoded.
-/
import Derived.Test.YtbgjcadjkkddhaaDoorDigits
namespace Go.Proofs.YtbgjcadjkkddhaaDoor
open Go.RowKit

set_option maxHeartbeats 1000000 in
set_option maxRecDepth 100000 in
theorem ref_Spelt_num (n at' : Int) (hn : I64 n) (w : World) : Calls Tryd.prog 74 #[.agg #[.int .i64 1, .int .i64 0, .int .i64 n, .string ⟨#[]⟩, .int .i64 at']] w fun r w' => r = .returned (.tuple #[.string ⟨(numText n).toArray⟩, .int .i64 0]) ∧ Below w.heap.size w w' := by
  have hD := fun W => ref_digits n hn W
  go_enter Tryd.func74, Tryd.ntmps74
  go_wp2_with (go_at_call 103; refine (hD _).mono ?_; rintro r w' ⟨rfl, rfl⟩)
  go_ret2
  exact ⟨rfl, by first | exact Below.refl _ _ | exact (Below.refl _ _).alloc (Nat.le_refl _) _⟩

set_option maxHeartbeats 1000000 in
theorem ref_Numeral (n : Int) (hn : I64 n) (w : World) : Calls Tryd.prog 46 #[.int .i64 n] w fun r w' => r = .returned (.string ⟨(numText n).toArray⟩) ∧ Below w.heap.size w w' := by
  have hD := fun W => ref_Spelt_num n 0 hn W
  go_enter Tryd.func46, Tryd.ntmps46
  go_wp2_with (go_at_call 74; refine (hD _).mono ?_; rintro r w' ⟨rfl, hb⟩)
  go_ret
  exact ⟨rfl, hb⟩
end Go.Proofs.YtbgjcadjkkddhaaDoor
