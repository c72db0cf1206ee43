/-
  The functions of package ravelinsame: what they return.
-/
import Derived.Test.YtbgjcadjkkddhaaDoorProg
import Derived.Test.YtbgjcadjkkddhaaDoorBase
namespace Go.Proofs.YtbgjcadjkkddhaaDoor
open Go.RowKit

set_option maxHeartbeats 400000 in
theorem same_Ints (p q : Option Addr) (c d : Nat) (xs ys : List Int) (w : World) (hx : IntsAt w p c xs) (hy : IntsAt w q d ys) :
    Calls Tryd.prog 13 #[.slice p xs.length c, .slice q ys.length d] w fun e w' => e = .returned (.bool (decide (xs = ys))) ∧ ∃ k, w' = w.drewN k := by
  have hm := len_max hx.le hx.max
  by_cases hnm : xs.length = ys.length
  · have Hn := Lib.hid hnm
    rw [← hnm]
    have hix := fun k hk => hx.idx Tryd.underlying23 Tryd.sizeOf3 rfl .i64 k hk
    have hiy := fun k hk => hy.idx Tryd.underlying23 Tryd.sizeOf3 Hn.out.symm .i64 k hk
    clear hnm
    obtain ⟨n, hn⟩ : ∃ n, n = xs.length := ⟨_, rfl⟩
    rw [← hn] at hm hix hiy ⊢
    have HN := Lib.hid hn
    clear hn
    go_enter Tryd.func13, Tryd.ntmps13
    go_wp2
    go_loopw [5] (fun i wr => ∃ k : Nat, k ≤ n ∧ i = .int .i64 k ∧ (∃ m, wr = w.drewN m) ∧ xs.take k = ys.take k) (fun i _ => n - (intOf i).toNat)
    case atStart => exact ⟨0, by omega, rfl, ⟨0, rfl⟩, by simp⟩
    case round =>
      obtain ⟨k, hk, rfl, ⟨m, rfl⟩, hj⟩ := hrel
      have Hj := Lib.hid hj
      clear hj
      by_cases hlt : k < n
      · have hix := hix k hlt
        have hiy := hiy k hlt
        have hkx : k < xs.length := by rw [← HN.out]; exact hlt
        have hky : k < ys.length := by rw [← Hn.out]; exact hkx
        have hxk := hx.get k hkx
        have hyk := hy.get k hky
        obtain ⟨x, hxx⟩ : ∃ x, x = xs.getD k 0 := ⟨_, rfl⟩
        obtain ⟨y, hyy⟩ : ∃ y, y = ys.getD k 0 := ⟨_, rfl⟩
        rw [← hxx] at hxk
        rw [← hyy] at hyk
        have Ex := Lib.hid hxx
        have Ey := Lib.hid hyy
        clear hxx hyy hx hy hkx hky
        go_wp2
        go_quiet (fail)
        go_wp2
        · go_ret
          have h : (x != y) = true := by assumption
          refine ⟨ret_bool ?_, _, World.drewN_drewN ..⟩
          have hne : xs ≠ ys := ne_of_getD (k := k) (by rw [← Ex.out, ← Ey.out]; simpa using h)
          simp [hne]
        · have h : (x != y) = false := by assumption
          have hxy : x = y := by simpa using h
          go_roundw
          case rel => exact ⟨k + 1, by omega, by go_num, ⟨_, rfl⟩, take_eq_succ Hj.out (by rw [← HN.out]; exact hlt) (by rw [← Hn.out, ← HN.out]; exact hlt) (by rw [← Ex.out, ← Ey.out]; exact hxy)⟩
          case measure => simp [intOf]; omega
      · clear hix hiy hx hy
        go_wp2
        go_ret
        have hkn : k = n := by omega
        subst hkn
        exact ⟨ret_bool (by simp [eq_of_take Hj.out (by rw [← HN.out]; omega) (by rw [← Hn.out, ← HN.out]; omega)]), _, rfl⟩
  · have h1 : ((xs.length : Int) != (ys.length : Int)) = true := by simpa using fun h => hnm (by omega)
    have H := Lib.hid hnm
    clear hx hy hnm
    go_enter Tryd.func13, Tryd.ntmps13
    go_wp2
    go_ret
    refine ⟨ret_bool ?_, 0, rfl⟩
    have hne : xs ≠ ys := fun e => H.out (by rw [e])
    simp [hne]
end Go.Proofs.YtbgjcadjkkddhaaDoor
