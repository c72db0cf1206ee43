/-
  What the laws of package save use alike.
-/
import Derived.Test.YtdnkapfcnapadaaDoorGo
import Derived.Test.YtdnkapfcnapadaaDoorSaveSpace
import Derived.Test.YtdnkapfcnapadaaDoorSave5
import Derived.Test.YtdnkapfcnapadaaDoorSaveR6
import Derived.Test.YtdnkapfcnapadaaDoorLaidF
namespace Go.Proofs.YtdnkapfcnapadaaDoor
open Go.RowKit

/-! ## the plain laws -/
theorem loadF_le4 (body : List UInt8) (s : BitVec 32) : loadF (body ++ le4 s) = (if le4 (sumF body) ≠ le4 s then (6, []) else match bodyP body with
    | none => (1, [])
    | some ws => (0, ws) : Int × List Bnd) := loadF_app body _ _ _ _
theorem load_written {us : List Bnd} (h : spaceF us = 0) (hn : ∀ b ∈ us, ∀ n ∈ b.data, I64 n) : loadF (bodyB us ++ le4 (sumF (bodyB us))) = (0, us) := by
  rw [loadF_le4, if_neg (fun h => h rfl), body_enc h hn]
theorem load_ok {l : List UInt8} {us : List Bnd} (h : loadF l = (0, us)) : l = bodyB us ++ le4 (sumF (bodyB us)) ∧ spaceF us = 0 := by
  unfold loadF at h
  split at h
  · cases h
  · split at h
    · cases h
    · rename_i h1
      cases hb : bodyP (l.take (l.length - 4)) with
      | none => rw [hb] at h; cases h
      | some ws =>
        rw [hb] at h
        simp only [Prod.mk.injEq, true_and] at h
        subst h
        obtain ⟨e1, e2, _⟩ := body_dec hb
        refine ⟨?_, e2⟩
        have h2 : le4 (sumF (l.take (l.length - 4))) = l.drop (l.length - 4) := Decidable.of_not_not h1
        rw [← e1, h2, List.take_append_drop]
/-- an answer that is an error -/
def BadF (l : List UInt8) : Prop := ∃ x, loadF l = (x, []) ∧ x ≠ 0
theorem bad_of {l : List UInt8} (h : 4 ≤ l.length → bodyP (l.take (l.length - 4)) = none) : BadF l := by
  unfold BadF loadF
  by_cases h4 : l.length < 4
  · exact ⟨4, by rw [if_pos h4], by decide⟩
  · rw [if_neg h4]
    by_cases hs : le4 (sumF (l.take (l.length - 4))) ≠ l.drop (l.length - 4)
    · exact ⟨6, by rw [if_pos hs], by decide⟩
    · rw [if_neg hs, h (by omega)]
      exact ⟨1, rfl, by decide⟩
theorem load_less {us : List Bnd} (h : spaceF us = 0) (hn : ∀ b ∈ us, ∀ n ∈ b.data, I64 n) {n : Nat} (hlt : n < (bodyB us ++ le4 (sumF (bodyB us))).length) : BadF ((bodyB us ++ le4 (sumF (bodyB us))).take n) := by
  have hl : (bodyB us ++ le4 (sumF (bodyB us))).length = (bodyB us).length + 4 := by simp [le4]
  generalize le4 (sumF (bodyB us)) = t at hlt hl ⊢
  refine bad_of fun h4 => ?_
  rw [List.length_take] at h4 ⊢
  have e : min n (bodyB us ++ t).length = n := Nat.min_eq_left (by omega)
  rw [e] at h4 ⊢
  rw [List.take_take, Nat.min_eq_left (by omega), List.take_append_of_le_length (by omega)]
  exact body_less h hn (t := (bodyB us).drop (n - 4)) (List.take_append_drop _ _).symm (fun hd => by
    have := congrArg List.length hd
    rw [List.length_drop, List.length_nil] at this
    omega)
theorem load_more {us : List Bnd} (h : spaceF us = 0) (hn : ∀ b ∈ us, ∀ n ∈ b.data, I64 n) {more : List UInt8} (hm : more ≠ []) : BadF (bodyB us ++ le4 (sumF (bodyB us)) ++ more) := by
  have hml : 0 < more.length := List.length_pos_iff.2 hm
  have hl : (le4 (sumF (bodyB us))).length = 4 := rfl
  generalize le4 (sumF (bodyB us)) = t at hl ⊢
  refine bad_of fun h4 => ?_
  have e : (bodyB us ++ t ++ more).length - 4 = (bodyB us).length + more.length := by simp [hl]; omega
  rw [e, List.append_assoc, List.take_length_add_append]
  exact body_more h hn (fun hd => by
    have := congrArg List.length hd
    rw [List.length_take, List.length_append, List.length_nil] at this
    omega)
theorem write_ok {us : List Bnd} (h : spaceF us = 0) : writeF us = (0, bodyB us ++ le4 (sumF (bodyB us))) := by unfold writeF; rw [if_neg (fun hh => hh h)]
theorem write_bad {us : List Bnd} (h : ¬ spaceF us = 0) : writeF us = (spaceF us, []) := by unfold writeF; rw [if_pos h]
theorem write_nil : writeF [] = (0, [0, 141, 239, 2, 210]) := by
  have e : bodyB [] = [0] := by unfold bodyB; rw [List.length_nil, cntB_small (by decide)]; rfl
  rw [write_ok (by decide), e]
  have : le4 (sumF [0]) = [141, 239, 2, 210] := by decide +kernel
  rw [this]
  rfl
theorem sum_fact : ((sumF [49, 50, 51, 52, 53, 54, 55, 56, 57]).toNat : Int) = 3421780262 := by decide +kernel

/-! ## the walks -/
theorem read_N (l : List UInt8) (hl : l.length ≤ 1099511627776) (w : World) (hG : GlobA w) : Calls Tryd.prog 11 #[.string ⟨l.toArray⟩] w fun e w' => ∃ x : Option Addr × Nat × List BindM, e = .returned (.tuple #[.slice x.1 x.2.2.length x.2.1, errV 32 (loadF l).1]) ∧ Below w.heap.size w w' ∧ (x.2.2.map BindM.bnd = (loadF l).2 ∧ Row bindE 4 w'.cell? x.1 x.2.1 x.2.2 ∧ ∀ b ∈ x.2.2, BindG w'.cell? b) :=
  (save_Read l w hl hG).mono fun _ _ ⟨p, c, ws, h1, h2, h3, h4, h5⟩ => ⟨(p, c, ws), h2, h5, h1, h3, h4⟩
theorem read_any (l : List UInt8) {x : Int} (h : loadF l = (x, [])) (hx : x ≠ 0) (hl : l.length ≤ 1099511627776) (w : World) (hG : GlobA w) : Calls Tryd.prog 11 #[.string ⟨l.toArray⟩] w fun e w' => ∃ z : Option Addr × Nat, True ∧ e = .returned (.tuple #[.slice z.1 0 z.2, .iface 32 (.int .i64 x)]) ∧ Holds w [] [] w' :=
  (save_Read l w hl hG).mono fun _ _ ⟨p, c, ws, h1, h2, h3, h4, h5⟩ => ⟨(p, c), trivial, by
    rw [h] at h1 h2
    have : ws = [] := by simpa using h1
    subst this
    rw [h2, errV_ne hx]; rfl, Holds.nil w [] |>.grow h5⟩
set_option maxHeartbeats 4000000 in
set_option maxRecDepth 100000 in
theorem law_saved (w : World) (hG : GlobA w) : Calls Tryd.prog 9 #[] w fun e w' => e = .returned (.bool true) ∧ Below w.heap.size w w' := by
  refine enterR (G := w.cell?) (args := []) (m := []) (Rd.sub_cell w) rfl Tryd.func9 rfl Tryd.ntmps9 (by simp) ?_
  (repeat' (first | (refine zg1 ?_) | (refine WL_nil ?_) | (refine WQ_end ?_) | (refine zc7 ?_) | (refine CW_region ?_) | (refine zc1 ?_) | (refine zc2 ?_) | (refine zc3 ?_) | (refine zc4 ?_) | (refine CW_skip ?_) | (refine CW_ret ?_) | (refine CW_exit ?_) | (refine CW_block ?_) | (refine EX_seq ?_) | (refine EX_seq_ret ?_) | (refine EX_blk ?_) | (refine EX_blk_ret ?_) | (refine EX_loop_ret ?_) | (refine zx1 ?_) | (refine zx2 ?_) | (refine EX_seq_exit ?_) | (refine EX_loop_exit ?_) | (refine EX_mid_ret ?_) | (refine EX_mid_exit ?_) | (refine zr1 fun w hw => ?_) | (refine zr2 fun w hw => ?_) | (refine zr0 fun w hw => ?_) | (refine zr4 fun w hw => ?_) | (refine zr3 fun w hw => ?_) | (refine zg4 ?_) | (refine zg2 ?_) | (refine zg5 ?_) | (refine zp4 ?_) | (refine zp5 ?_) | (refine zc8 ?_) | (refine zc9 ?_) | (refine zg3 ?_) | (refine zg6 ?_) | (refine WB_end ?_) | (refine zp1 ?_) | (refine zp2 ?_) | (refine zm9 fun _ => ?_) | (refine zm2 fun _ => ?_) | (refine zm1 fun _ _ => ?_) | (refine za1 fun _ _ => ?_) | (refine za2 fun _ _ => ?_) | (refine zm4 ?_) | (refine zm5 ?_) | (refine zm6 ?_) | (refine zm7 fun _ => ?_) | (refine zm8 fun _ => ?_) | (refine zm3 fun _ => ?_) | (refine isRet ?_; refine zr5 rfl rfl rfl fun w hw => ?_) | (refine isNor ?_; refine zr6 rfl rfl rfl fun w hw => ?_) | (refine EX_seq_panic ?_) | (refine EX_blk_panic ?_) | (refine EX_mid_panic ?_) | (refine EX_loop_panic ?_) | (refine isPan ?_; refine EX_body_panic rfl fun w hw => ?_) | (refine zpn ?_) | (refine zcS ?_) | (refine zcT ?_) | (refine zp7 ?_) | (refine zp8 ?_) | (refine zq7 ?_) | (refine zq8 ?_) | (refine zc5 (fun _ => ?_) fun _ => ?_) | (refine zp3 (fun _ => ?_) fun _ => ?_) | (refine zp6 (fun _ => ?_) fun _ => ?_) | (refine zc6 (fun _ => ?_) fun _ => ?_)))
  (apply WL_callV; rfl; rfl; rfl; (intro W hW; exact save_Write none 0 [] W (Row.nil _ _ _) (by simp) (hG.below hW.below)))
  rw [List.map_nil, write_nil]
  dsimp only
  (repeat' (first | (refine zg1 ?_) | (refine WL_nil ?_) | (refine WQ_end ?_) | (refine zc7 ?_) | (refine CW_region ?_) | (refine zc1 ?_) | (refine zc2 ?_) | (refine zc3 ?_) | (refine zc4 ?_) | (refine CW_skip ?_) | (refine CW_ret ?_) | (refine CW_exit ?_) | (refine CW_block ?_) | (refine EX_seq ?_) | (refine EX_seq_ret ?_) | (refine EX_blk ?_) | (refine EX_blk_ret ?_) | (refine EX_loop_ret ?_) | (refine zx1 ?_) | (refine zx2 ?_) | (refine EX_seq_exit ?_) | (refine EX_loop_exit ?_) | (refine EX_mid_ret ?_) | (refine EX_mid_exit ?_) | (refine zr1 fun w hw => ?_) | (refine zr2 fun w hw => ?_) | (refine zr0 fun w hw => ?_) | (refine zr4 fun w hw => ?_) | (refine zr3 fun w hw => ?_) | (refine zg4 ?_) | (refine zg2 ?_) | (refine zg5 ?_) | (refine zp4 ?_) | (refine zp5 ?_) | (refine zc8 ?_) | (refine zc9 ?_) | (refine zg3 ?_) | (refine zg6 ?_) | (refine WB_end ?_) | (refine zp1 ?_) | (refine zp2 ?_) | (refine zm9 fun _ => ?_) | (refine zm2 fun _ => ?_) | (refine zm1 fun _ _ => ?_) | (refine za1 fun _ _ => ?_) | (refine za2 fun _ _ => ?_) | (refine zm4 ?_) | (refine zm5 ?_) | (refine zm6 ?_) | (refine zm7 fun _ => ?_) | (refine zm8 fun _ => ?_) | (refine zm3 fun _ => ?_) | (refine isRet ?_; refine zr5 rfl rfl rfl fun w hw => ?_) | (refine isNor ?_; refine zr6 rfl rfl rfl fun w hw => ?_) | (refine EX_seq_panic ?_) | (refine EX_blk_panic ?_) | (refine EX_mid_panic ?_) | (refine EX_loop_panic ?_) | (refine isPan ?_; refine EX_body_panic rfl fun w hw => ?_) | (refine zpn ?_) | (refine zcS ?_) | (refine zcT ?_) | (refine zp7 ?_) | (refine zp8 ?_) | (refine zq7 ?_) | (refine zq8 ?_) | (refine zc5 (fun _ => ?_) fun _ => ?_) | (refine zp3 (fun _ => ?_) fun _ => ?_) | (refine zp6 (fun _ => ?_) fun _ => ?_) | (refine zc6 (fun _ => ?_) fun _ => ?_)))
  · (apply WL_callV; rfl; rfl; rfl; (intro W hW; exact save_Sum [49, 50, 51, 52, 53, 54, 55, 56, 57] W (by decide)))
    rw [sum_fact]
    (repeat' (first | (refine zg1 ?_) | (refine WL_nil ?_) | (refine WQ_end ?_) | (refine zc7 ?_) | (refine CW_region ?_) | (refine zc1 ?_) | (refine zc2 ?_) | (refine zc3 ?_) | (refine zc4 ?_) | (refine CW_skip ?_) | (refine CW_ret ?_) | (refine CW_exit ?_) | (refine CW_block ?_) | (refine EX_seq ?_) | (refine EX_seq_ret ?_) | (refine EX_blk ?_) | (refine EX_blk_ret ?_) | (refine EX_loop_ret ?_) | (refine zx1 ?_) | (refine zx2 ?_) | (refine EX_seq_exit ?_) | (refine EX_loop_exit ?_) | (refine EX_mid_ret ?_) | (refine EX_mid_exit ?_) | (refine zr1 fun w hw => ?_) | (refine zr2 fun w hw => ?_) | (refine zr0 fun w hw => ?_) | (refine zr4 fun w hw => ?_) | (refine zr3 fun w hw => ?_) | (refine zg4 ?_) | (refine zg2 ?_) | (refine zg5 ?_) | (refine zp4 ?_) | (refine zp5 ?_) | (refine zc8 ?_) | (refine zc9 ?_) | (refine zg3 ?_) | (refine zg6 ?_) | (refine WB_end ?_) | (refine zp1 ?_) | (refine zp2 ?_) | (refine zm9 fun _ => ?_) | (refine zm2 fun _ => ?_) | (refine zm1 fun _ _ => ?_) | (refine za1 fun _ _ => ?_) | (refine za2 fun _ _ => ?_) | (refine zm4 ?_) | (refine zm5 ?_) | (refine zm6 ?_) | (refine zm7 fun _ => ?_) | (refine zm8 fun _ => ?_) | (refine zm3 fun _ => ?_) | (refine isRet ?_; refine zr5 rfl rfl rfl fun w hw => ?_) | (refine isNor ?_; refine zr6 rfl rfl rfl fun w hw => ?_) | (refine EX_seq_panic ?_) | (refine EX_blk_panic ?_) | (refine EX_mid_panic ?_) | (refine EX_loop_panic ?_) | (refine isPan ?_; refine EX_body_panic rfl fun w hw => ?_) | (refine zpn ?_) | (refine zcS ?_) | (refine zcT ?_) | (refine zp7 ?_) | (refine zp8 ?_) | (refine zq7 ?_) | (refine zq8 ?_) | (refine zc5 (fun _ => ?_) fun _ => ?_) | (refine zp3 (fun _ => ?_) fun _ => ?_) | (refine zp6 (fun _ => ?_) fun _ => ?_) | (refine zc6 (fun _ => ?_) fun _ => ?_)))
    exact ⟨rfl, hw.below⟩
  · rename_i h
    exact absurd (by decide) h
  · rename_i h
    exact absurd (by decide) h
theorem bindG_of {w : World} {B : Nat} {b : BindM} (h : BindS w B b) (hB : B ≤ 1048576) : BindG w.cell? b := ⟨by have := h.1; omega, h.2.1.row, h.2.2.row, h.2.1.each, h.2.2.each⟩
end Go.Proofs.YtdnkapfcnapadaaDoor
