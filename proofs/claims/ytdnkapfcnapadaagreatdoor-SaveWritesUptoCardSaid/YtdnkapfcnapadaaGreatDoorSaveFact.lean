/-
  What the laws of package save use alike: the fact of an empty workspace.
-/
import Derived.Test.YtdnkapfcnapadaaGreatDoorGo
import Derived.Test.YtdnkapfcnapadaaGreatDoorSaveSpace
import Derived.Test.YtdnkapfcnapadaaGreatDoorSave5
import Derived.Test.YtdnkapfcnapadaaGreatDoorLaidF
namespace Go.Proofs.YtdnkapfcnapadaaGreatDoor
open Go.RowKit

theorem write_ok {us : List Bnd} (h : spaceF us = 0) : writeF us = (0, bodyB us ++ le4 (sumF (bodyB us))) := by unfold writeF; rw [if_neg (fun hh => hh h)]
theorem write_bad {us : List Bnd} (h : ¬ spaceF us = 0) : writeF us = (spaceF us, []) := by unfold writeF; rw [if_pos h]
theorem write_nil : writeF [] = (0, [0, 141, 239, 2, 210]) := by
  have e : bodyB [] = [0] := by unfold bodyB; rw [List.length_nil, cntB_small (by decide)]; rfl
  rw [write_ok (by decide), e]
  have : le4 (sumF [0]) = [141, 239, 2, 210] := by decide +kernel
  rw [this]
  rfl
theorem sum_fact : ((sumF [49, 50, 51, 52, 53, 54, 55, 56, 57]).toNat : Int) = 3421780262 := by decide +kernel

set_option maxHeartbeats 4000000 in
set_option maxRecDepth 100000 in
theorem law_saved (w : World) (hG : GlobA w) : Calls Tryz.prog 9 #[] w fun e w' => e = .returned (.bool true) ∧ Below w.heap.size w w' := by
  refine enterR (G := w.cell?) (args := []) (m := []) (Rd.sub_cell w) rfl Tryz.func9 rfl Tryz.ntmps9 (by simp) ?_
  (repeat' (first | (refine zg1 ?_) | (refine WL_nil ?_) | (refine WQ_end ?_) | (refine zc7 ?_) | (refine CW_region ?_) | (refine zc1 ?_) | (refine zc2 ?_) | (refine zc3 ?_) | (refine zc4 ?_) | (refine CW_skip ?_) | (refine CW_ret ?_) | (refine CW_exit ?_) | (refine CW_block ?_) | (refine EX_seq ?_) | (refine EX_seq_ret ?_) | (refine EX_blk ?_) | (refine EX_blk_ret ?_) | (refine EX_loop_ret ?_) | (refine zx1 ?_) | (refine zx2 ?_) | (refine EX_seq_exit ?_) | (refine EX_loop_exit ?_) | (refine EX_mid_ret ?_) | (refine EX_mid_exit ?_) | (refine zr1 fun w hw => ?_) | (refine zr2 fun w hw => ?_) | (refine zr0 fun w hw => ?_) | (refine zr4 fun w hw => ?_) | (refine zr3 fun w hw => ?_) | (refine zg4 ?_) | (refine zg2 ?_) | (refine zg5 ?_) | (refine zp4 ?_) | (refine zp5 ?_) | (refine zc8 ?_) | (refine zc9 ?_) | (refine zg3 ?_) | (refine zg6 ?_) | (refine WB_end ?_) | (refine zp1 ?_) | (refine zp2 ?_) | (refine zm9 fun _ => ?_) | (refine zm2 fun _ => ?_) | (refine zm1 fun _ _ => ?_) | (refine za1 fun _ _ => ?_) | (refine za2 fun _ _ => ?_) | (refine zm4 ?_) | (refine zm5 ?_) | (refine zm6 ?_) | (refine zm7 fun _ => ?_) | (refine zm8 fun _ => ?_) | (refine zm3 fun _ => ?_) | (refine isRet ?_; refine zr5 rfl rfl rfl fun w hw => ?_) | (refine isNor ?_; refine zr6 rfl rfl rfl fun w hw => ?_) | (refine EX_seq_panic ?_) | (refine EX_blk_panic ?_) | (refine EX_mid_panic ?_) | (refine EX_loop_panic ?_) | (refine isPan ?_; refine EX_body_panic rfl fun w hw => ?_) | (refine zpn ?_) | (refine zcS ?_) | (refine zcT ?_) | (refine zp7 ?_) | (refine zp8 ?_) | (refine zq7 ?_) | (refine zq8 ?_) | (refine zc5 (fun _ => ?_) fun _ => ?_) | (refine zp3 (fun _ => ?_) fun _ => ?_) | (refine zp6 (fun _ => ?_) fun _ => ?_) | (refine zc6 (fun _ => ?_) fun _ => ?_)))
  (apply WL_callV; rfl; rfl; rfl; (intro W hW; exact save_Write none 0 [] W (Row.nil _ _ _) (by simp) (hG.below hW.below)))
  rw [List.map_nil, write_nil]
  dsimp only
  (repeat' (first | (refine zg1 ?_) | (refine WL_nil ?_) | (refine WQ_end ?_) | (refine zc7 ?_) | (refine CW_region ?_) | (refine zc1 ?_) | (refine zc2 ?_) | (refine zc3 ?_) | (refine zc4 ?_) | (refine CW_skip ?_) | (refine CW_ret ?_) | (refine CW_exit ?_) | (refine CW_block ?_) | (refine EX_seq ?_) | (refine EX_seq_ret ?_) | (refine EX_blk ?_) | (refine EX_blk_ret ?_) | (refine EX_loop_ret ?_) | (refine zx1 ?_) | (refine zx2 ?_) | (refine EX_seq_exit ?_) | (refine EX_loop_exit ?_) | (refine EX_mid_ret ?_) | (refine EX_mid_exit ?_) | (refine zr1 fun w hw => ?_) | (refine zr2 fun w hw => ?_) | (refine zr0 fun w hw => ?_) | (refine zr4 fun w hw => ?_) | (refine zr3 fun w hw => ?_) | (refine zg4 ?_) | (refine zg2 ?_) | (refine zg5 ?_) | (refine zp4 ?_) | (refine zp5 ?_) | (refine zc8 ?_) | (refine zc9 ?_) | (refine zg3 ?_) | (refine zg6 ?_) | (refine WB_end ?_) | (refine zp1 ?_) | (refine zp2 ?_) | (refine zm9 fun _ => ?_) | (refine zm2 fun _ => ?_) | (refine zm1 fun _ _ => ?_) | (refine za1 fun _ _ => ?_) | (refine za2 fun _ _ => ?_) | (refine zm4 ?_) | (refine zm5 ?_) | (refine zm6 ?_) | (refine zm7 fun _ => ?_) | (refine zm8 fun _ => ?_) | (refine zm3 fun _ => ?_) | (refine isRet ?_; refine zr5 rfl rfl rfl fun w hw => ?_) | (refine isNor ?_; refine zr6 rfl rfl rfl fun w hw => ?_) | (refine EX_seq_panic ?_) | (refine EX_blk_panic ?_) | (refine EX_mid_panic ?_) | (refine EX_loop_panic ?_) | (refine isPan ?_; refine EX_body_panic rfl fun w hw => ?_) | (refine zpn ?_) | (refine zcS ?_) | (refine zcT ?_) | (refine zp7 ?_) | (refine zp8 ?_) | (refine zq7 ?_) | (refine zq8 ?_) | (refine zc5 (fun _ => ?_) fun _ => ?_) | (refine zp3 (fun _ => ?_) fun _ => ?_) | (refine zp6 (fun _ => ?_) fun _ => ?_) | (refine zc6 (fun _ => ?_) fun _ => ?_)))
  · (apply WL_callV; rfl; rfl; rfl; (intro W hW; exact save_Sum [49, 50, 51, 52, 53, 54, 55, 56, 57] W (by decide)))
    rw [sum_fact]
    (repeat' (first | (refine zg1 ?_) | (refine WL_nil ?_) | (refine WQ_end ?_) | (refine zc7 ?_) | (refine CW_region ?_) | (refine zc1 ?_) | (refine zc2 ?_) | (refine zc3 ?_) | (refine zc4 ?_) | (refine CW_skip ?_) | (refine CW_ret ?_) | (refine CW_exit ?_) | (refine CW_block ?_) | (refine EX_seq ?_) | (refine EX_seq_ret ?_) | (refine EX_blk ?_) | (refine EX_blk_ret ?_) | (refine EX_loop_ret ?_) | (refine zx1 ?_) | (refine zx2 ?_) | (refine EX_seq_exit ?_) | (refine EX_loop_exit ?_) | (refine EX_mid_ret ?_) | (refine EX_mid_exit ?_) | (refine zr1 fun w hw => ?_) | (refine zr2 fun w hw => ?_) | (refine zr0 fun w hw => ?_) | (refine zr4 fun w hw => ?_) | (refine zr3 fun w hw => ?_) | (refine zg4 ?_) | (refine zg2 ?_) | (refine zg5 ?_) | (refine zp4 ?_) | (refine zp5 ?_) | (refine zc8 ?_) | (refine zc9 ?_) | (refine zg3 ?_) | (refine zg6 ?_) | (refine WB_end ?_) | (refine zp1 ?_) | (refine zp2 ?_) | (refine zm9 fun _ => ?_) | (refine zm2 fun _ => ?_) | (refine zm1 fun _ _ => ?_) | (refine za1 fun _ _ => ?_) | (refine za2 fun _ _ => ?_) | (refine zm4 ?_) | (refine zm5 ?_) | (refine zm6 ?_) | (refine zm7 fun _ => ?_) | (refine zm8 fun _ => ?_) | (refine zm3 fun _ => ?_) | (refine isRet ?_; refine zr5 rfl rfl rfl fun w hw => ?_) | (refine isNor ?_; refine zr6 rfl rfl rfl fun w hw => ?_) | (refine EX_seq_panic ?_) | (refine EX_blk_panic ?_) | (refine EX_mid_panic ?_) | (refine EX_loop_panic ?_) | (refine isPan ?_; refine EX_body_panic rfl fun w hw => ?_) | (refine zpn ?_) | (refine zcS ?_) | (refine zcT ?_) | (refine zp7 ?_) | (refine zp8 ?_) | (refine zq7 ?_) | (refine zq8 ?_) | (refine zc5 (fun _ => ?_) fun _ => ?_) | (refine zp3 (fun _ => ?_) fun _ => ?_) | (refine zp6 (fun _ => ?_) fun _ => ?_) | (refine zc6 (fun _ => ?_) fun _ => ?_)))
    exact ⟨rfl, hw.below⟩
  · rename_i h
    exact absurd (by decide) h
  · rename_i h
    exact absurd (by decide) h
theorem bindG_of {w : World} {B : Nat} {b : BindM} (h : BindS w B b) (hB : B ≤ 1048576) : BindG w.cell? b := ⟨by have := h.1; omega, h.2.1.row, h.2.2.row, h.2.1.each, h.2.2.each⟩
end Go.Proofs.YtdnkapfcnapadaaGreatDoor
