/-
  The logic of walks: a block as a slice of the call's own.
-/
import Derived.Test.YtdnkapfcnapadaaGreatDoorGo
namespace Go.Proofs.YtdnkapfcnapadaaGreatDoor
open Go.RowKit
theorem Ent.blkSl {m r m' : List HP} {b n : Nat} {e : TypeId} {cs : Array Value} {xs : List Value} (hp : Pick m (blk b e cs) r) (hc : cs = xs.toArray) (hn : xs.length = n) (hm : n ≤ 1099511627776) (kk : Ent r m') : Ent m (sl e 1 (some ⟨b, 0, none⟩) n n xs :: m') := fun fp w ho => by
  obtain ⟨f1, f2, he, ⟨rfl, hb⟩, k2, kd⟩ := hp.own ho
  obtain ⟨f3, h3, hs⟩ := kk f2 w k2
  subst hc
  refine ⟨[b] ++ f3, ⟨[b], f3, rfl, ⟨rfl, by rw [hn, Nat.mul_one], .inr ⟨b, n, _, rfl, Nat.zero_le _, hb, Nat.le_refl _, by unfold maxLen; omega, by simp [hn], by rw [Nat.mul_one, ← hn]; simp⟩⟩, h3, fun i hi h => kd i hi (hs i h)⟩, fun i hi => ?_⟩
  rcases List.mem_append.1 hi with hi | hi
  · exact (he i).2 (.inl hi)
  · exact (he i).2 (.inr (hs i hi))
end Go.Proofs.YtdnkapfcnapadaaGreatDoor
