/-
  plain.Told and ravelinsame.Error: of an error that is nil or an Errno, its number.
-/
import Derived.Test.YtdnkapfcnapadaaGreatDoorAs
namespace Go.Proofs.YtdnkapfcnapadaaGreatDoor
open Go.RowKit

/-- errors.errorType's cell -/
def Handle (w : World) : Prop := w.cell? ⟨0, 0, none⟩ = some (.iface 247 (.agg #[.pointer (some ⟨7, 29, none⟩)]))

theorem Handle.lt {w : World} (h : Handle w) : 0 < w.heap.size := by
  unfold Handle World.cell? at h
  rcases Nat.lt_or_ge 0 w.heap.size with h' | h'
  · exact h'
  · rw [Array.getElem?_eq_none h'] at h; simp at h
theorem Handle.below {w w' : World} (h : Handle w) (hb : Below w.heap.size w w') : Handle w' := by
  unfold Handle
  rw [hb.cell h.lt]; exact h

theorem told_zero (w : World) : Calls Tryz.prog 40 #[.nilIface] w fun r w' => r = .returned (.int .i64 0) ∧ w' = w := by
  go_enter Tryz.func40, Tryz.ntmps40
  go_wp2
  go_ret
  exact ⟨rfl, rfl⟩

set_option maxHeartbeats 4000000 in
theorem told_errno (e : Int) (w : World) (hg : Handle w) : Calls Tryz.prog 40 #[.iface 25 (.int .i64 e)] w fun r w' => r = .returned (.int .i64 e) ∧ Below w.heap.size w w' := by
  have hH : Handle (w.alloc (.cells #[.int .i64 0] 25)) := hg.below ((Below.refl _ _).alloc (Nat.le_refl _) _)
  have ht : (w.alloc (.cells #[.int .i64 0] 25)).cell? ⟨w.heap.size, 0, none⟩ = some (.int .i64 0) := by simp
  have hf : (w.alloc (.cells #[.int .i64 0] 25)).frozen? ⟨w.heap.size, 0, none⟩ = false := by simp
  go_enter Tryz.func40, Tryz.ntmps40
  go_wp2_with (go_at_call 75; refine (as_hit e _ (.int .i64 0) _ hH ht hf).mono ?_; rintro r w' ⟨rfl, rfl⟩)
  go_ret
  refine ⟨rfl, ?_⟩
  exact ((((Below.refl _ _).alloc (Nat.le_refl _) _).alloc (by simp) _).alloc (by simp; omega) _ |>.alloc (by simp; omega) _ |>.alloc (by simp; omega) _)

theorem plain_Told (e : Int) (w : World) (hg : Handle w) : Calls Tryz.prog 40 #[errV 25 e] w fun r w' => r = .returned (.int .i64 e) ∧ Below w.heap.size w w' := by
  by_cases he : e = 0
  · subst he
    rw [errV_zero]
    refine (told_zero w).mono ?_
    rintro r w' ⟨rfl, rfl⟩
    exact ⟨rfl, Below.refl _ _⟩
  · rw [errV_ne he]
    exact told_errno e w hg

set_option maxHeartbeats 400000 in
theorem same_Error (e f : Int) (w : World) (hg : Handle w) : Calls Tryz.prog 14 #[errV 25 e, .int .i64 f] w fun r w' => r = .returned (.bool (decide (e = f))) ∧ Below w.heap.size w w' := by
  have hT := plain_Told e w hg
  obtain ⟨v, hv⟩ : ∃ v, v = errV 25 e := ⟨_, rfl⟩
  rw [← hv] at hT ⊢
  clear hv hg
  go_enter Tryz.func14, Tryz.ntmps14
  go_wp2_with (go_at_call 40; refine hT.mono ?_; rintro r w' ⟨rfl, hb⟩)
  go_ret
  exact ⟨ret_bool (by by_cases h : e = f <;> simp [h]), hb⟩

end Go.Proofs.YtdnkapfcnapadaaGreatDoor
