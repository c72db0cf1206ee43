/-
  ravelinref3.Begins.
-/
import Derived.Test.YtnnidacekljihaaGreatDoorGo
import Derived.Test.YtnnidacekljihaaGreatDoorInst
namespace Go.Proofs.YtnnidacekljihaaGreatDoor
open Go.RowKit

theorem prefix_at (p l : List UInt8) (hl : p.length ≤ l.length) : List.isPrefixOf p l = true ↔ ∀ i, i < p.length → l.getD i 0 = p.getD i 0 := by
  induction p generalizing l with
  | nil => simp [List.isPrefixOf]
  | cons b p ih =>
    cases l with
    | nil => simp at hl
    | cons c l =>
      simp only [List.isPrefixOf, Bool.and_eq_true, beq_iff_eq]
      rw [ih l (by simpa using hl)]
      constructor
      · rintro ⟨h1, h2⟩ i hi
        cases i with
        | zero => simpa using h1.symm
        | succ i => simpa using h2 i (by simpa using hi)
      · intro h
        exact ⟨by simpa using (h 0 (by simp)).symm, fun i hi => by simpa using h (i + 1) (by simpa using hi)⟩
theorem prefix_short (p l : List UInt8) (hl : l.length < p.length) : List.isPrefixOf p l = false := by
  cases h : List.isPrefixOf p l with
  | false => rfl
  | true =>
    have := (List.isPrefixOf_iff_prefix.1 h).length_le
    omega

set_option maxRecDepth 100000 in
theorem ref_Begins (s : List UInt8) (a : Nat) (p : List UInt8) (w : World) (hs : s.length ≤ 1099511627776) (hp : p.length ≤ 1099511627776) (ha : a ≤ s.length) :
    Calls Tryz.prog 16 #[.string ⟨s.toArray⟩, .int .i64 (a : Int), .string ⟨p.toArray⟩] w fun e w' => e = .returned (.bool (p.isPrefixOf (s.drop a))) ∧ Below w.heap.size w w' := by
  have hdl : (s.drop a).length = s.length - a := by simp
  refine enter (args := [_, _, _]) (m := []) (F := []) Tryz.func16 rfl Tryz.ntmps16 (by simp) rfl ?_
  by_cases hsh : (s.length : Int) - (a : Int) < (p.length : Int)
  · (repeat' (first | (refine zg1 ?_) | (refine WL_nil ?_) | (refine WQ_end ?_) | (refine zc7 ?_) | (refine CW_region ?_) | (refine zc1 ?_) | (refine zc2 ?_) | (refine zc3 ?_) | (refine zc4 ?_) | (refine CW_skip ?_) | (refine CW_ret ?_) | (refine CW_exit ?_) | (refine CW_block ?_) | (refine EX_seq ?_) | (refine EX_seq_ret ?_) | (refine EX_blk ?_) | (refine EX_blk_ret ?_) | (refine EX_loop_ret ?_) | (refine zx1 ?_) | (refine zx2 ?_) | (refine EX_seq_exit ?_) | (refine EX_loop_exit ?_) | (refine EX_mid_ret ?_) | (refine EX_mid_exit ?_) | (refine zr1 fun w hw => ?_) | (refine zr2 fun w hw => ?_) | (refine zr0 fun w hw => ?_) | (refine zr4 fun w hw => ?_) | (refine zr3 fun w hw => ?_) | (refine zg4 ?_) | (refine zg2 ?_) | (refine zg5 ?_) | (refine zp4 ?_) | (refine zp5 ?_) | (refine zc8 ?_) | (refine zc9 ?_) | (refine zg3 ?_) | (refine zg6 ?_) | (refine WB_end ?_) | (refine zp1 ?_) | (refine zp2 ?_) | (refine zm9 fun _ => ?_) | (refine zm2 fun _ => ?_) | (refine zm1 fun _ _ => ?_) | (refine za1 fun _ _ => ?_) | (refine za2 fun _ _ => ?_) | (refine zm4 ?_) | (refine zm5 ?_) | (refine zm6 ?_) | (refine zm7 fun _ => ?_) | (refine zm8 fun _ => ?_) | (refine zm3 fun _ => ?_) | (refine isRet ?_; refine zr5 rfl rfl rfl fun w hw => ?_) | (refine isNor ?_; refine zr6 rfl rfl rfl fun w hw => ?_) | (refine EX_seq_panic ?_) | (refine EX_blk_panic ?_) | (refine EX_mid_panic ?_) | (refine EX_loop_panic ?_) | (refine isPan ?_; refine EX_body_panic rfl fun w hw => ?_) | (refine zpn ?_) | (refine zcS ?_) | (refine zcT ?_) | (refine zp7 ?_) | (refine zp8 ?_) | (refine zq7 ?_) | (refine zq8 ?_) | (refine zc5 (fun _ => ?_) fun _ => ?_) | (refine zp3 (fun _ => ?_) fun _ => ?_) | (refine zp6 (fun _ => ?_) fun _ => ?_) | (refine zc6 (fun _ => ?_) fun _ => ?_)))
    exact ⟨by rw [prefix_short _ _ (by omega)], hw.below⟩
  · (repeat' (first | (refine zg1 ?_) | (refine WL_nil ?_) | (refine WQ_end ?_) | (refine zc7 ?_) | (refine CW_region ?_) | (refine zc1 ?_) | (refine zc2 ?_) | (refine zc3 ?_) | (refine zc4 ?_) | (refine CW_skip ?_) | (refine CW_ret ?_) | (refine CW_exit ?_) | (refine CW_block ?_) | (refine EX_seq ?_) | (refine EX_seq_ret ?_) | (refine EX_blk ?_) | (refine EX_blk_ret ?_) | (refine EX_loop_ret ?_) | (refine zx1 ?_) | (refine zx2 ?_) | (refine EX_seq_exit ?_) | (refine EX_loop_exit ?_) | (refine EX_mid_ret ?_) | (refine EX_mid_exit ?_) | (refine zr1 fun w hw => ?_) | (refine zr2 fun w hw => ?_) | (refine zr0 fun w hw => ?_) | (refine zr4 fun w hw => ?_) | (refine zr3 fun w hw => ?_) | (refine zg4 ?_) | (refine zg2 ?_) | (refine zg5 ?_) | (refine zp4 ?_) | (refine zp5 ?_) | (refine zc8 ?_) | (refine zc9 ?_) | (refine zg3 ?_) | (refine zg6 ?_) | (refine WB_end ?_) | (refine zp1 ?_) | (refine zp2 ?_) | (refine zm9 fun _ => ?_) | (refine zm2 fun _ => ?_) | (refine zm1 fun _ _ => ?_) | (refine za1 fun _ _ => ?_) | (refine za2 fun _ _ => ?_) | (refine zm4 ?_) | (refine zm5 ?_) | (refine zm6 ?_) | (refine zm7 fun _ => ?_) | (refine zm8 fun _ => ?_) | (refine zm3 fun _ => ?_) | (refine isRet ?_; refine zr5 rfl rfl rfl fun w hw => ?_) | (refine isNor ?_; refine zr6 rfl rfl rfl fun w hw => ?_) | (refine EX_seq_panic ?_) | (refine EX_blk_panic ?_) | (refine EX_mid_panic ?_) | (refine EX_loop_panic ?_) | (refine isPan ?_; refine EX_body_panic rfl fun w hw => ?_) | (refine zpn ?_) | (refine zcS ?_) | (refine zcT ?_) | (refine zp7 ?_) | (refine zp8 ?_) | (refine zq7 ?_) | (refine zq8 ?_) | (refine zc5 (fun _ => ?_) fun _ => ?_) | (refine zp3 (fun _ => ?_) fun _ => ?_) | (refine zp6 (fun _ => ?_) fun _ => ?_) | (refine zc6 (fun _ => ?_) fun _ => ?_)))
    refine CW_loopP [(0,_),(1,_),(2,_)] (by repeat (first | exact Cov.nil | refine Cov.cons rfl (by first | rfl | (congr 1; omega) | assumption) ?_)) (fun x : Nat => [(7, .int .i64 x)]) (fun x => x ≤ p.length ∧ ∀ i, i < x → (s.drop a).getD i 0 = p.getD i 0) (fun x => p.length - x) 0 ⟨Nat.zero_le _, fun i h => by omega⟩ (by repeat (first | exact Cov.nil | refine Cov.cons rfl (by first | rfl | (congr 1; omega) | assumption) ?_)) ?_
    rintro k ⟨hk, hz⟩
    by_cases hlt : k < p.length
    · have hgd : (s.drop a).getD k 0 = s.getD (a + k) 0 := by simp [List.getD_eq_getElem?_getD, List.getElem?_drop]
      by_cases hc : s.getD (a + k) 0 = p.getD k 0
      · have hcI : ¬ (((s.getD (a + k) 0).toNat : Int) ≠ ((p.getD k 0).toNat : Int)) := by rw [hc]; simp
        (repeat' (first | (refine zg1 ?_) | (refine WL_nil ?_) | (refine WQ_end ?_) | (refine zc7 ?_) | (refine CW_region ?_) | (refine zc1 ?_) | (refine zc2 ?_) | (refine zc3 ?_) | (refine zc4 ?_) | (refine CW_skip ?_) | (refine CW_ret ?_) | (refine CW_exit ?_) | (refine CW_block ?_) | (refine EX_seq ?_) | (refine EX_seq_ret ?_) | (refine EX_blk ?_) | (refine EX_blk_ret ?_) | (refine EX_loop_ret ?_) | (refine zx1 ?_) | (refine zx2 ?_) | (refine EX_seq_exit ?_) | (refine EX_loop_exit ?_) | (refine EX_mid_ret ?_) | (refine EX_mid_exit ?_) | (refine zr1 fun w hw => ?_) | (refine zr2 fun w hw => ?_) | (refine zr0 fun w hw => ?_) | (refine zr4 fun w hw => ?_) | (refine zr3 fun w hw => ?_) | (refine zg4 ?_) | (refine zg2 ?_) | (refine zg5 ?_) | (refine zp4 ?_) | (refine zp5 ?_) | (refine zc8 ?_) | (refine zc9 ?_) | (refine zg3 ?_) | (refine zg6 ?_) | (refine WB_end ?_) | (refine zp1 ?_) | (refine zp2 ?_) | (refine zm9 fun _ => ?_) | (refine zm2 fun _ => ?_) | (refine zm1 fun _ _ => ?_) | (refine za1 fun _ _ => ?_) | (refine za2 fun _ _ => ?_) | (refine zm4 ?_) | (refine zm5 ?_) | (refine zm6 ?_) | (refine zm7 fun _ => ?_) | (refine zm8 fun _ => ?_) | (refine zm3 fun _ => ?_) | (refine isRet ?_; refine zr5 rfl rfl rfl fun w hw => ?_) | (refine isNor ?_; refine zr6 rfl rfl rfl fun w hw => ?_) | (refine EX_seq_panic ?_) | (refine EX_blk_panic ?_) | (refine EX_mid_panic ?_) | (refine EX_loop_panic ?_) | (refine isPan ?_; refine EX_body_panic rfl fun w hw => ?_) | (refine zpn ?_) | (refine zcS ?_) | (refine zcT ?_) | (refine zp7 ?_) | (refine zp8 ?_) | (refine zq7 ?_) | (refine zq8 ?_) | (refine zc5 (fun _ => ?_) fun _ => ?_) | (refine zp3 (fun _ => ?_) fun _ => ?_) | (refine zp6 (fun _ => ?_) fun _ => ?_) | (refine zc6 (fun _ => ?_) fun _ => ?_)))
        refine EX_loop' (k + 1) ⟨(by repeat (first | exact Cov.nil | refine Cov.cons rfl (by first | rfl | (congr 1; omega) | assumption) ?_)), (by repeat (first | exact Ent.nil | refine zn1 ?_)), by omega, by omega, fun i hi => ?_⟩
        by_cases e : i = k
        · subst e; rw [hgd]; exact hc
        · exact hz i (by omega)
      · have hcI : ((s.getD (a + k) 0).toNat : Int) ≠ ((p.getD k 0).toNat : Int) := fun e => hc (UInt8.toNat.inj (by omega))
        (repeat' (first | (refine zg1 ?_) | (refine WL_nil ?_) | (refine WQ_end ?_) | (refine zc7 ?_) | (refine CW_region ?_) | (refine zc1 ?_) | (refine zc2 ?_) | (refine zc3 ?_) | (refine zc4 ?_) | (refine CW_skip ?_) | (refine CW_ret ?_) | (refine CW_exit ?_) | (refine CW_block ?_) | (refine EX_seq ?_) | (refine EX_seq_ret ?_) | (refine EX_blk ?_) | (refine EX_blk_ret ?_) | (refine EX_loop_ret ?_) | (refine zx1 ?_) | (refine zx2 ?_) | (refine EX_seq_exit ?_) | (refine EX_loop_exit ?_) | (refine EX_mid_ret ?_) | (refine EX_mid_exit ?_) | (refine zr1 fun w hw => ?_) | (refine zr2 fun w hw => ?_) | (refine zr0 fun w hw => ?_) | (refine zr4 fun w hw => ?_) | (refine zr3 fun w hw => ?_) | (refine zg4 ?_) | (refine zg2 ?_) | (refine zg5 ?_) | (refine zp4 ?_) | (refine zp5 ?_) | (refine zc8 ?_) | (refine zc9 ?_) | (refine zg3 ?_) | (refine zg6 ?_) | (refine WB_end ?_) | (refine zp1 ?_) | (refine zp2 ?_) | (refine zm9 fun _ => ?_) | (refine zm2 fun _ => ?_) | (refine zm1 fun _ _ => ?_) | (refine za1 fun _ _ => ?_) | (refine za2 fun _ _ => ?_) | (refine zm4 ?_) | (refine zm5 ?_) | (refine zm6 ?_) | (refine zm7 fun _ => ?_) | (refine zm8 fun _ => ?_) | (refine zm3 fun _ => ?_) | (refine isRet ?_; refine zr5 rfl rfl rfl fun w hw => ?_) | (refine isNor ?_; refine zr6 rfl rfl rfl fun w hw => ?_) | (refine EX_seq_panic ?_) | (refine EX_blk_panic ?_) | (refine EX_mid_panic ?_) | (refine EX_loop_panic ?_) | (refine isPan ?_; refine EX_body_panic rfl fun w hw => ?_) | (refine zpn ?_) | (refine zcS ?_) | (refine zcT ?_) | (refine zp7 ?_) | (refine zp8 ?_) | (refine zq7 ?_) | (refine zq8 ?_) | (refine zc5 (fun _ => ?_) fun _ => ?_) | (refine zp3 (fun _ => ?_) fun _ => ?_) | (refine zp6 (fun _ => ?_) fun _ => ?_) | (refine zc6 (fun _ => ?_) fun _ => ?_)))
        have hf : List.isPrefixOf p (s.drop a) = false := by
          cases h : List.isPrefixOf p (s.drop a) with
          | false => rfl
          | true => exact absurd ((prefix_at _ _ (by omega)).1 h k hlt) (by rw [hgd]; exact hc)
        exact ⟨by rw [hf], hw.below⟩
    · have hkl : k = p.length := by omega
      subst hkl
      (repeat' (first | (refine zg1 ?_) | (refine WL_nil ?_) | (refine WQ_end ?_) | (refine zc7 ?_) | (refine CW_region ?_) | (refine zc1 ?_) | (refine zc2 ?_) | (refine zc3 ?_) | (refine zc4 ?_) | (refine CW_skip ?_) | (refine CW_ret ?_) | (refine CW_exit ?_) | (refine CW_block ?_) | (refine EX_seq ?_) | (refine EX_seq_ret ?_) | (refine EX_blk ?_) | (refine EX_blk_ret ?_) | (refine EX_loop_ret ?_) | (refine zx1 ?_) | (refine zx2 ?_) | (refine EX_seq_exit ?_) | (refine EX_loop_exit ?_) | (refine EX_mid_ret ?_) | (refine EX_mid_exit ?_) | (refine zr1 fun w hw => ?_) | (refine zr2 fun w hw => ?_) | (refine zr0 fun w hw => ?_) | (refine zr4 fun w hw => ?_) | (refine zr3 fun w hw => ?_) | (refine zg4 ?_) | (refine zg2 ?_) | (refine zg5 ?_) | (refine zp4 ?_) | (refine zp5 ?_) | (refine zc8 ?_) | (refine zc9 ?_) | (refine zg3 ?_) | (refine zg6 ?_) | (refine WB_end ?_) | (refine zp1 ?_) | (refine zp2 ?_) | (refine zm9 fun _ => ?_) | (refine zm2 fun _ => ?_) | (refine zm1 fun _ _ => ?_) | (refine za1 fun _ _ => ?_) | (refine za2 fun _ _ => ?_) | (refine zm4 ?_) | (refine zm5 ?_) | (refine zm6 ?_) | (refine zm7 fun _ => ?_) | (refine zm8 fun _ => ?_) | (refine zm3 fun _ => ?_) | (refine isRet ?_; refine zr5 rfl rfl rfl fun w hw => ?_) | (refine isNor ?_; refine zr6 rfl rfl rfl fun w hw => ?_) | (refine EX_seq_panic ?_) | (refine EX_blk_panic ?_) | (refine EX_mid_panic ?_) | (refine EX_loop_panic ?_) | (refine isPan ?_; refine EX_body_panic rfl fun w hw => ?_) | (refine zpn ?_) | (refine zcS ?_) | (refine zcT ?_) | (refine zp7 ?_) | (refine zp8 ?_) | (refine zq7 ?_) | (refine zq8 ?_) | (refine zc5 (fun _ => ?_) fun _ => ?_) | (refine zp3 (fun _ => ?_) fun _ => ?_) | (refine zp6 (fun _ => ?_) fun _ => ?_) | (refine zc6 (fun _ => ?_) fun _ => ?_)))
      exact ⟨by rw [(prefix_at _ _ (by omega)).2 hz], hw.below⟩

/-! ## what Read tells, to be read -/
end Go.Proofs.YtnnidacekljihaaGreatDoor
