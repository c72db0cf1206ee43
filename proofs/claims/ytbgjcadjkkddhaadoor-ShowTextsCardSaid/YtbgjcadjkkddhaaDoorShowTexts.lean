/-
  The law ShowTexts: for every array and every world it returns true and changes nothing that was there.
-/
import Derived.Test.YtbgjcadjkkddhaaDoorShownPlain
import Derived.Test.YtbgjcadjkkddhaaDoorChars
import Derived.Test.YtbgjcadjkkddhaaDoorFlaw
import Derived.Test.YtbgjcadjkkddhaaDoorTold
import Derived.Test.YtbgjcadjkkddhaaDoorGo
namespace Go.Proofs.YtbgjcadjkkddhaaDoor
open Go.RowKit

/-- the text of an array -/
def textF (ch : Bool) (s d : List Int) : List UInt8 := if ch then charsText s d else numsText s d

theorem show_Text (ch : Bool) (p q : Option Addr) (c1 c2 : Nat) (s d : List Int) (w : World) (hs : IntsAt w p c1 s) (hd : IntsAt w q c2 d) (hG : Glob w) :
    Calls Tryd.prog 17 #[.agg #[.bool ch, .slice p s.length c1, .slice q d.length c2]] w fun e w' => e = .returned (.tuple #[.string ⟨(textF ch s d).toArray⟩, errV 31 (checkF ch s d)]) ∧ Below w.heap.size w w' := by
  cases ch with
  | true => exact show_Text_chars p q c1 c2 s d w hs hd
  | false => exact (show_Text_nums p q c1 c2 s d w hs hd hG).mono fun e w' h => ⟨h.1, h.2.1⟩
theorem textF_bad {ch : Bool} {s d : List Int} (h : ¬ checkF ch s d = 0) : textF ch s d = [] := by
  cases ch with
  | true => unfold textF charsText; rw [if_pos rfl, if_pos h]
  | false => unfold textF numsText; rw [if_neg (by simp), if_pos h]
theorem textF_nil (ch : Bool) (s : List Int) : textF ch s [] = [] := by
  cases ch with
  | true => unfold textF charsText; simp
  | false => unfold textF numsText; simp [tablesFrom]
theorem check_any {ch : Bool} {s d : List Int} (h : checkF ch s d = 0) : checkF false s d = 0 := by
  cases ch with
  | true => exact (check_true h).1
  | false => exact h
theorem count_of_check {s d : List Int} (h : checkF false s d = 0) : countF s = ((d.length : Int), 0) := by
  unfold checkF at h
  split at h
  · rename_i h1; exact absurd h h1
  · rename_i h1
    split at h
    · cases h
    · rename_i h2
      exact Prod.ext (Decidable.not_not.1 h2).symm (Decidable.not_not.1 h1)
theorem sh_dims {s d : List Int} (h : checkF false s d = 0) (hd : d ≠ []) : shCols s = (dimC s d : Int) ∧ shRows s = (dimR s : Int) := by
  obtain ⟨hR1, hR2, hC1, hC2, hRC, hdl, _, hdim⟩ := dims_ok h hd
  have hl : 0 < d.length := List.length_pos_iff.2 hd
  obtain ⟨_, _, hpr, _⟩ := countF_pos (count_of_check h) (by omega)
  by_cases h1 : 1 < s.length
  · unfold shCols shRows
    rw [if_pos (by omega), if_pos h1]
    exact ⟨(hdim h1).2, (hdim h1).1⟩
  · unfold shCols shRows dimC dimR
    rw [if_neg h1, if_neg h1, if_neg h1]
    refine ⟨?_, rfl⟩
    match s, h1, hpr with
    | [], _, hpr => simpa [prodL] using hpr.symm
    | [x], _, hpr => simpa [prodL] using hpr.symm
    | _ :: _ :: _, h1, _ => simp at h1
theorem textF_shown {ch : Bool} {s d : List Int} (h : checkF ch s d = 0) (hd : d ≠ []) : shownTo ch (decide (1 < s.length)) d (dimC s d) (dimR s) d.length = textF ch s d := by
  obtain ⟨hR1, hR2, hC1, hC2, hRC, hdl, ⟨Q, hQ⟩, hdim⟩ := dims_ok (check_any h) hd
  cases ch with
  | true =>
    unfold textF charsText
    rw [if_pos rfl, if_neg (by simp [h]), if_neg hd]
    refine shown_chars _ d _ _ _ hC1 ?_
    have : d.length / dimC s d = Q * dimR s := by rw [hQ, ← Nat.mul_assoc]; exact Nat.mul_div_cancel _ (by omega)
    rw [this, Nat.mul_assoc]; exact hQ
  | false =>
    unfold textF numsText
    rw [if_neg (by simp), if_neg (by simp [h])]
    exact shown_nums _ d hC1 hR1 hQ

set_option maxRecDepth 100000 in
theorem ref_Shown_nil (ch : Bool) (p q : Option Addr) (c1 c2 : Nat) (s : List Int) (w : World) (hs : IntsAt w p c1 s) :
    Calls Tryd.prog 20 #[.agg #[.bool ch, .slice p s.length c1, .slice q 0 c2]] w fun r w' => r = .returned (.string ⟨(([] : List UInt8)).toArray⟩) ∧ Below w.heap.size w w' := by
  have hm1 := len_max hs.le hs.max
  refine enter (args := [_]) (m := []) (F := []) Tryd.func20 rfl Tryd.ntmps20 (by simp) rfl ?_
  (repeat' (first | refine zg1 ?_ | refine WL_nil ?_ | refine WQ_end ?_ | refine zc7 ?_ | refine CW_region ?_ | refine zc1 ?_ | refine zc2 ?_ | refine zc3 ?_ | refine zc4 ?_ | refine CW_skip ?_ | refine CW_ret ?_ | refine CW_exit ?_ | refine CW_block ?_ | refine EX_seq ?_ | refine EX_seq_ret ?_ | refine EX_blk ?_ | refine EX_blk_ret ?_ | refine EX_loop_ret ?_ | refine zx1 ?_ | refine zx2 ?_ | refine EX_seq_exit ?_ | refine EX_loop_exit ?_ | refine EX_mid_ret ?_ | refine EX_mid_exit ?_ | refine zr1 fun w hw => ?_ | refine zr2 fun w hw => ?_ | refine zr0 fun w hw => ?_ | refine zr4 fun w hw => ?_ | refine zr3 fun w hw => ?_ | refine zg4 ?_ | refine zg2 ?_ | refine zg5 ?_ | refine zp4 ?_ | refine zp5 ?_ | refine zc8 ?_ | refine zc9 ?_ | refine zg3 ?_ | refine zg6 ?_ | refine WB_end ?_ | refine zp1 ?_ | refine zp2 ?_ | refine zm9 fun _ => ?_ | refine zm2 fun _ => ?_ | refine zm1 fun _ _ => ?_ | refine za1 fun _ _ => ?_ | refine za2 fun _ _ => ?_ | refine zm4 ?_ | refine zm5 ?_ | refine zm6 ?_ | refine zm7 fun _ => ?_ | refine zm8 fun _ => ?_ | refine zm3 fun _ => ?_ | refine zr5 rfl rfl rfl fun w hw => ?_ | refine zr6 rfl rfl rfl fun w hw => ?_ | refine zc5 (fun _ => ?_) fun _ => ?_ | refine zp3 (fun _ => ?_) fun _ => ?_ | refine zp6 (fun _ => ?_) fun _ => ?_ | refine zc6 (fun _ => ?_) fun _ => ?_))
  exact ⟨rfl, hw.below⟩
theorem ref_Shown_all (ch : Bool) (p q : Option Addr) (c1 c2 : Nat) (s d : List Int) (w : World) (hs : IntsAt w p c1 s) (hd : IntsAt w q c2 d) (h : checkF ch s d = 0) :
    Calls Tryd.prog 20 #[.agg #[.bool ch, .slice p s.length c1, .slice q d.length c2]] w fun r w' => r = .returned (.string ⟨(textF ch s d).toArray⟩) ∧ Below w.heap.size w w' := by
  by_cases hd0 : d = []
  · subst hd0
    rw [textF_nil]
    exact ref_Shown_nil ch p q c1 c2 s w hs
  · obtain ⟨hR1, hR2, hC1, hC2, hRC, hdl, hq, hdim⟩ := dims_ok (check_any h) hd0
    obtain ⟨h1, h2⟩ := sh_dims (check_any h) hd0
    rw [← textF_shown h hd0]
    exact ref_Shown ch p q c1 c2 s d w hs hd _ _ ⟨hC1, hC2⟩ ⟨hR1, hR2⟩ h1 h2 hdl (List.length_pos_iff.2 hd0) (fun hc => by subst hc; exact charsOk_rune d (check_true h).2) (fun _ _ => hq)

theorem factText2 : textF false [2] [1, -2] = [49, 32, 194, 175, 50] := by decide +kernel
theorem factCheck2 : checkF false [2] [1, -2] = 0 := by decide

set_option maxHeartbeats 1000000 in
set_option maxRecDepth 100000 in
theorem law_ShowTexts (ch : Bool) (p q : Option Addr) (c1 c2 : Nat) (s d : List Int) (w : World) (hs : IntsAt w p c1 s) (hd : IntsAt w q c2 d) (hG : Glob w) (hH : Handle w) :
    Calls Tryd.prog 6 #[.agg #[.bool ch, .slice p s.length c1, .slice q d.length c2]] w fun e w' => e = .returned (.bool true) ∧ Below w.heap.size w w' := by
  have hm1 := len_max hs.le hs.max
  have hm2 := len_max hd.le hd.max
  have hF : ∀ (W : World) (p q : Option Addr) (c1 c2 : Nat), IntsAt W p c1 [2] → IntsAt W q c2 [1, -2] → Glob W → Calls Tryd.prog 17 #[.agg #[.bool false, .slice p 1 c1, .slice q 2 c2]] W fun e w' => e = .returned (.tuple #[.string ⟨[49, 32, 194, 175, 50].toArray⟩, .nilIface]) ∧ Below W.heap.size W w' := fun W p q c1 c2 h1 h2 h3 => by
    have h := show_Text false p q c1 c2 [2] [1, -2] W h1 h2 h3
    rw [factText2, factCheck2, errV_zero] at h
    exact h
  have i2 : ∀ x ∈ ([1, -2] : List Int), I64 x := by unfold I64; decide
  have i1 : ∀ x ∈ ([2] : List Int), I64 x := by unfold I64; decide
  refine enter (args := [_]) (m := []) (F := []) Tryd.func6 rfl Tryd.ntmps6 (by simp) rfl ?_
  (repeat' (first | refine zg1 ?_ | refine WL_nil ?_ | refine WQ_end ?_ | refine zc7 ?_ | refine CW_region ?_ | refine zc1 ?_ | refine zc2 ?_ | refine zc3 ?_ | refine zc4 ?_ | refine CW_skip ?_ | refine CW_ret ?_ | refine CW_exit ?_ | refine CW_block ?_ | refine EX_seq ?_ | refine EX_seq_ret ?_ | refine EX_blk ?_ | refine EX_blk_ret ?_ | refine EX_loop_ret ?_ | refine zx1 ?_ | refine zx2 ?_ | refine EX_seq_exit ?_ | refine EX_loop_exit ?_ | refine EX_mid_ret ?_ | refine EX_mid_exit ?_ | refine zr1 fun w hw => ?_ | refine zr2 fun w hw => ?_ | refine zr0 fun w hw => ?_ | refine zr4 fun w hw => ?_ | refine zr3 fun w hw => ?_ | refine zg4 ?_ | refine zg2 ?_ | refine zg5 ?_ | refine zp4 ?_ | refine zp5 ?_ | refine zc8 ?_ | refine zc9 ?_ | refine zg3 ?_ | refine zg6 ?_ | refine WB_end ?_ | refine zp1 ?_ | refine zp2 ?_ | refine zm9 fun _ => ?_ | refine zm2 fun _ => ?_ | refine zm1 fun _ _ => ?_ | refine za1 fun _ _ => ?_ | refine za2 fun _ _ => ?_ | refine zm4 ?_ | refine zm5 ?_ | refine zm6 ?_ | refine zm7 fun _ => ?_ | refine zm8 fun _ => ?_ | refine zm3 fun _ => ?_ | refine zr5 rfl rfl rfl fun w hw => ?_ | refine zr6 rfl rfl rfl fun w hw => ?_ | refine zc5 (fun _ => ?_) fun _ => ?_ | refine zp3 (fun _ => ?_) fun _ => ?_ | refine zp6 (fun _ => ?_) fun _ => ?_ | refine zc6 (fun _ => ?_) fun _ => ?_))
  rename_i b bl
  (apply WL_callX; rfl; rfl; rfl; (intro W hW; exact law_vec (some ⟨bl, 0, none⟩) 2 [1, -2] W (Holds.blkInts hW .here i2 (by decide)) (by decide)); intro _ _)
  rename_i x _
  (repeat' (first | refine zg1 ?_ | refine WL_nil ?_ | refine WQ_end ?_ | refine zc7 ?_ | refine CW_region ?_ | refine zc1 ?_ | refine zc2 ?_ | refine zc3 ?_ | refine zc4 ?_ | refine CW_skip ?_ | refine CW_ret ?_ | refine CW_exit ?_ | refine CW_block ?_ | refine EX_seq ?_ | refine EX_seq_ret ?_ | refine EX_blk ?_ | refine EX_blk_ret ?_ | refine EX_loop_ret ?_ | refine zx1 ?_ | refine zx2 ?_ | refine EX_seq_exit ?_ | refine EX_loop_exit ?_ | refine EX_mid_ret ?_ | refine EX_mid_exit ?_ | refine zr1 fun w hw => ?_ | refine zr2 fun w hw => ?_ | refine zr0 fun w hw => ?_ | refine zr4 fun w hw => ?_ | refine zr3 fun w hw => ?_ | refine zg4 ?_ | refine zg2 ?_ | refine zg5 ?_ | refine zp4 ?_ | refine zp5 ?_ | refine zc8 ?_ | refine zc9 ?_ | refine zg3 ?_ | refine zg6 ?_ | refine WB_end ?_ | refine zp1 ?_ | refine zp2 ?_ | refine zm9 fun _ => ?_ | refine zm2 fun _ => ?_ | refine zm1 fun _ _ => ?_ | refine za1 fun _ _ => ?_ | refine za2 fun _ _ => ?_ | refine zm4 ?_ | refine zm5 ?_ | refine zm6 ?_ | refine zm7 fun _ => ?_ | refine zm8 fun _ => ?_ | refine zm3 fun _ => ?_ | refine zr5 rfl rfl rfl fun w hw => ?_ | refine zr6 rfl rfl rfl fun w hw => ?_ | refine zc5 (fun _ => ?_) fun _ => ?_ | refine zp3 (fun _ => ?_) fun _ => ?_ | refine zp6 (fun _ => ?_) fun _ => ?_ | refine zc6 (fun _ => ?_) fun _ => ?_))
  (apply WL_callV; rfl; rfl; rfl; (intro W hW; exact hF W (some ⟨x.1, 0, none⟩) x.2.2 1 x.2.1 (Holds.blkInts (xs := [2]) hW .here i1 (by decide)) (Holds.ints (xs := [1, -2]) hW (.there .here) i2).2 (hG.below hW.below hG.lt)))
  (repeat' (first | refine zg1 ?_ | refine WL_nil ?_ | refine WQ_end ?_ | refine zc7 ?_ | refine CW_region ?_ | refine zc1 ?_ | refine zc2 ?_ | refine zc3 ?_ | refine zc4 ?_ | refine CW_skip ?_ | refine CW_ret ?_ | refine CW_exit ?_ | refine CW_block ?_ | refine EX_seq ?_ | refine EX_seq_ret ?_ | refine EX_blk ?_ | refine EX_blk_ret ?_ | refine EX_loop_ret ?_ | refine zx1 ?_ | refine zx2 ?_ | refine EX_seq_exit ?_ | refine EX_loop_exit ?_ | refine EX_mid_ret ?_ | refine EX_mid_exit ?_ | refine zr1 fun w hw => ?_ | refine zr2 fun w hw => ?_ | refine zr0 fun w hw => ?_ | refine zr4 fun w hw => ?_ | refine zr3 fun w hw => ?_ | refine zg4 ?_ | refine zg2 ?_ | refine zg5 ?_ | refine zp4 ?_ | refine zp5 ?_ | refine zc8 ?_ | refine zc9 ?_ | refine zg3 ?_ | refine zg6 ?_ | refine WB_end ?_ | refine zp1 ?_ | refine zp2 ?_ | refine zm9 fun _ => ?_ | refine zm2 fun _ => ?_ | refine zm1 fun _ _ => ?_ | refine za1 fun _ _ => ?_ | refine za2 fun _ _ => ?_ | refine zm4 ?_ | refine zm5 ?_ | refine zm6 ?_ | refine zm7 fun _ => ?_ | refine zm8 fun _ => ?_ | refine zm3 fun _ => ?_ | refine zr5 rfl rfl rfl fun w hw => ?_ | refine zr6 rfl rfl rfl fun w hw => ?_ | refine zc5 (fun _ => ?_) fun _ => ?_ | refine zp3 (fun _ => ?_) fun _ => ?_ | refine zp6 (fun _ => ?_) fun _ => ?_ | refine zc6 (fun _ => ?_) fun _ => ?_))
  (apply WL_callV; rfl; rfl; rfl; (intro W hW; exact ref_Flaw ch p q c1 c2 s d W (hs.below hW.below) (hd.below hW.below)))
  have hT := fun W hb => show_Text ch p q c1 c2 s d W (hs.below hb) (hd.below hb) (hG.below hb hG.lt)
  by_cases he : checkF ch s d = 0
  · (repeat' (first | refine zg1 ?_ | refine WL_nil ?_ | refine WQ_end ?_ | refine zc7 ?_ | refine CW_region ?_ | refine zc1 ?_ | refine zc2 ?_ | refine zc3 ?_ | refine zc4 ?_ | refine CW_skip ?_ | refine CW_ret ?_ | refine CW_exit ?_ | refine CW_block ?_ | refine EX_seq ?_ | refine EX_seq_ret ?_ | refine EX_blk ?_ | refine EX_blk_ret ?_ | refine EX_loop_ret ?_ | refine zx1 ?_ | refine zx2 ?_ | refine EX_seq_exit ?_ | refine EX_loop_exit ?_ | refine EX_mid_ret ?_ | refine EX_mid_exit ?_ | refine zr1 fun w hw => ?_ | refine zr2 fun w hw => ?_ | refine zr0 fun w hw => ?_ | refine zr4 fun w hw => ?_ | refine zr3 fun w hw => ?_ | refine zg4 ?_ | refine zg2 ?_ | refine zg5 ?_ | refine zp4 ?_ | refine zp5 ?_ | refine zc8 ?_ | refine zc9 ?_ | refine zg3 ?_ | refine zg6 ?_ | refine WB_end ?_ | refine zp1 ?_ | refine zp2 ?_ | refine zm9 fun _ => ?_ | refine zm2 fun _ => ?_ | refine zm1 fun _ _ => ?_ | refine za1 fun _ _ => ?_ | refine za2 fun _ _ => ?_ | refine zm4 ?_ | refine zm5 ?_ | refine zm6 ?_ | refine zm7 fun _ => ?_ | refine zm8 fun _ => ?_ | refine zm3 fun _ => ?_ | refine zr5 rfl rfl rfl fun w hw => ?_ | refine zr6 rfl rfl rfl fun w hw => ?_ | refine zc5 (fun _ => ?_) fun _ => ?_ | refine zp3 (fun _ => ?_) fun _ => ?_ | refine zp6 (fun _ => ?_) fun _ => ?_ | refine zc6 (fun _ => ?_) fun _ => ?_))
    refine CW_seq ?_
    (repeat' (first | refine zg1 ?_ | refine WL_nil ?_ | refine WQ_end ?_ | refine zc7 ?_ | refine CW_region ?_ | refine zc1 ?_ | refine zc2 ?_ | refine zc3 ?_ | refine zc4 ?_ | refine CW_skip ?_ | refine CW_ret ?_ | refine CW_exit ?_ | refine CW_block ?_ | refine EX_seq ?_ | refine EX_seq_ret ?_ | refine EX_blk ?_ | refine EX_blk_ret ?_ | refine EX_loop_ret ?_ | refine zx1 ?_ | refine zx2 ?_ | refine EX_seq_exit ?_ | refine EX_loop_exit ?_ | refine EX_mid_ret ?_ | refine EX_mid_exit ?_ | refine zr1 fun w hw => ?_ | refine zr2 fun w hw => ?_ | refine zr0 fun w hw => ?_ | refine zr4 fun w hw => ?_ | refine zr3 fun w hw => ?_ | refine zg4 ?_ | refine zg2 ?_ | refine zg5 ?_ | refine zp4 ?_ | refine zp5 ?_ | refine zc8 ?_ | refine zc9 ?_ | refine zg3 ?_ | refine zg6 ?_ | refine WB_end ?_ | refine zp1 ?_ | refine zp2 ?_ | refine zm9 fun _ => ?_ | refine zm2 fun _ => ?_ | refine zm1 fun _ _ => ?_ | refine za1 fun _ _ => ?_ | refine za2 fun _ _ => ?_ | refine zm4 ?_ | refine zm5 ?_ | refine zm6 ?_ | refine zm7 fun _ => ?_ | refine zm8 fun _ => ?_ | refine zm3 fun _ => ?_ | refine zr5 rfl rfl rfl fun w hw => ?_ | refine zr6 rfl rfl rfl fun w hw => ?_ | refine zc5 (fun _ => ?_) fun _ => ?_ | refine zp3 (fun _ => ?_) fun _ => ?_ | refine zp6 (fun _ => ?_) fun _ => ?_ | refine zc6 (fun _ => ?_) fun _ => ?_))
    (apply WL_callV; rfl; rfl; rfl; (intro W hW; exact ref_Shown_all ch p q c1 c2 s d W (hs.below hW.below) (hd.below hW.below) he))
    (repeat' (first | refine zg1 ?_ | refine WL_nil ?_ | refine WQ_end ?_ | refine zc7 ?_ | refine CW_region ?_ | refine zc1 ?_ | refine zc2 ?_ | refine zc3 ?_ | refine zc4 ?_ | refine CW_skip ?_ | refine CW_ret ?_ | refine CW_exit ?_ | refine CW_block ?_ | refine EX_seq ?_ | refine EX_seq_ret ?_ | refine EX_blk ?_ | refine EX_blk_ret ?_ | refine EX_loop_ret ?_ | refine zx1 ?_ | refine zx2 ?_ | refine EX_seq_exit ?_ | refine EX_loop_exit ?_ | refine EX_mid_ret ?_ | refine EX_mid_exit ?_ | refine zr1 fun w hw => ?_ | refine zr2 fun w hw => ?_ | refine zr0 fun w hw => ?_ | refine zr4 fun w hw => ?_ | refine zr3 fun w hw => ?_ | refine zg4 ?_ | refine zg2 ?_ | refine zg5 ?_ | refine zp4 ?_ | refine zp5 ?_ | refine zc8 ?_ | refine zc9 ?_ | refine zg3 ?_ | refine zg6 ?_ | refine WB_end ?_ | refine zp1 ?_ | refine zp2 ?_ | refine zm9 fun _ => ?_ | refine zm2 fun _ => ?_ | refine zm1 fun _ _ => ?_ | refine za1 fun _ _ => ?_ | refine za2 fun _ _ => ?_ | refine zm4 ?_ | refine zm5 ?_ | refine zm6 ?_ | refine zm7 fun _ => ?_ | refine zm8 fun _ => ?_ | refine zm3 fun _ => ?_ | refine zr5 rfl rfl rfl fun w hw => ?_ | refine zr6 rfl rfl rfl fun w hw => ?_ | refine zc5 (fun _ => ?_) fun _ => ?_ | refine zp3 (fun _ => ?_) fun _ => ?_ | refine zp6 (fun _ => ?_) fun _ => ?_ | refine zc6 (fun _ => ?_) fun _ => ?_))
    (apply WL_callV; rfl; rfl; rfl; (intro W hW; exact hT W hW.below))
    (repeat' (first | refine zg1 ?_ | refine WL_nil ?_ | refine WQ_end ?_ | refine zc7 ?_ | refine CW_region ?_ | refine zc1 ?_ | refine zc2 ?_ | refine zc3 ?_ | refine zc4 ?_ | refine CW_skip ?_ | refine CW_ret ?_ | refine CW_exit ?_ | refine CW_block ?_ | refine EX_seq ?_ | refine EX_seq_ret ?_ | refine EX_blk ?_ | refine EX_blk_ret ?_ | refine EX_loop_ret ?_ | refine zx1 ?_ | refine zx2 ?_ | refine EX_seq_exit ?_ | refine EX_loop_exit ?_ | refine EX_mid_ret ?_ | refine EX_mid_exit ?_ | refine zr1 fun w hw => ?_ | refine zr2 fun w hw => ?_ | refine zr0 fun w hw => ?_ | refine zr4 fun w hw => ?_ | refine zr3 fun w hw => ?_ | refine zg4 ?_ | refine zg2 ?_ | refine zg5 ?_ | refine zp4 ?_ | refine zp5 ?_ | refine zc8 ?_ | refine zc9 ?_ | refine zg3 ?_ | refine zg6 ?_ | refine WB_end ?_ | refine zp1 ?_ | refine zp2 ?_ | refine zm9 fun _ => ?_ | refine zm2 fun _ => ?_ | refine zm1 fun _ _ => ?_ | refine za1 fun _ _ => ?_ | refine za2 fun _ _ => ?_ | refine zm4 ?_ | refine zm5 ?_ | refine zm6 ?_ | refine zm7 fun _ => ?_ | refine zm8 fun _ => ?_ | refine zm3 fun _ => ?_ | refine zr5 rfl rfl rfl fun w hw => ?_ | refine zr6 rfl rfl rfl fun w hw => ?_ | refine zc5 (fun _ => ?_) fun _ => ?_ | refine zp3 (fun _ => ?_) fun _ => ?_ | refine zp6 (fun _ => ?_) fun _ => ?_ | refine zc6 (fun _ => ?_) fun _ => ?_))
    (apply WL_callV; rfl; rfl; rfl; (intro W hW; exact same_Error (checkF ch s d) (checkF ch s d) W (hH.below hW.below)))
    (repeat' (first | refine zg1 ?_ | refine WL_nil ?_ | refine WQ_end ?_ | refine zc7 ?_ | refine CW_region ?_ | refine zc1 ?_ | refine zc2 ?_ | refine zc3 ?_ | refine zc4 ?_ | refine CW_skip ?_ | refine CW_ret ?_ | refine CW_exit ?_ | refine CW_block ?_ | refine EX_seq ?_ | refine EX_seq_ret ?_ | refine EX_blk ?_ | refine EX_blk_ret ?_ | refine EX_loop_ret ?_ | refine zx1 ?_ | refine zx2 ?_ | refine EX_seq_exit ?_ | refine EX_loop_exit ?_ | refine EX_mid_ret ?_ | refine EX_mid_exit ?_ | refine zr1 fun w hw => ?_ | refine zr2 fun w hw => ?_ | refine zr0 fun w hw => ?_ | refine zr4 fun w hw => ?_ | refine zr3 fun w hw => ?_ | refine zg4 ?_ | refine zg2 ?_ | refine zg5 ?_ | refine zp4 ?_ | refine zp5 ?_ | refine zc8 ?_ | refine zc9 ?_ | refine zg3 ?_ | refine zg6 ?_ | refine WB_end ?_ | refine zp1 ?_ | refine zp2 ?_ | refine zm9 fun _ => ?_ | refine zm2 fun _ => ?_ | refine zm1 fun _ _ => ?_ | refine za1 fun _ _ => ?_ | refine za2 fun _ _ => ?_ | refine zm4 ?_ | refine zm5 ?_ | refine zm6 ?_ | refine zm7 fun _ => ?_ | refine zm8 fun _ => ?_ | refine zm3 fun _ => ?_ | refine zr5 rfl rfl rfl fun w hw => ?_ | refine zr6 rfl rfl rfl fun w hw => ?_ | refine zc5 (fun _ => ?_) fun _ => ?_ | refine zp3 (fun _ => ?_) fun _ => ?_ | refine zp6 (fun _ => ?_) fun _ => ?_ | refine zc6 (fun _ => ?_) fun _ => ?_))
    exact ⟨by simp, hw.below⟩
  · rw [textF_bad he] at hT
    (repeat' (first | refine zg1 ?_ | refine WL_nil ?_ | refine WQ_end ?_ | refine zc7 ?_ | refine CW_region ?_ | refine zc1 ?_ | refine zc2 ?_ | refine zc3 ?_ | refine zc4 ?_ | refine CW_skip ?_ | refine CW_ret ?_ | refine CW_exit ?_ | refine CW_block ?_ | refine EX_seq ?_ | refine EX_seq_ret ?_ | refine EX_blk ?_ | refine EX_blk_ret ?_ | refine EX_loop_ret ?_ | refine zx1 ?_ | refine zx2 ?_ | refine EX_seq_exit ?_ | refine EX_loop_exit ?_ | refine EX_mid_ret ?_ | refine EX_mid_exit ?_ | refine zr1 fun w hw => ?_ | refine zr2 fun w hw => ?_ | refine zr0 fun w hw => ?_ | refine zr4 fun w hw => ?_ | refine zr3 fun w hw => ?_ | refine zg4 ?_ | refine zg2 ?_ | refine zg5 ?_ | refine zp4 ?_ | refine zp5 ?_ | refine zc8 ?_ | refine zc9 ?_ | refine zg3 ?_ | refine zg6 ?_ | refine WB_end ?_ | refine zp1 ?_ | refine zp2 ?_ | refine zm9 fun _ => ?_ | refine zm2 fun _ => ?_ | refine zm1 fun _ _ => ?_ | refine za1 fun _ _ => ?_ | refine za2 fun _ _ => ?_ | refine zm4 ?_ | refine zm5 ?_ | refine zm6 ?_ | refine zm7 fun _ => ?_ | refine zm8 fun _ => ?_ | refine zm3 fun _ => ?_ | refine zr5 rfl rfl rfl fun w hw => ?_ | refine zr6 rfl rfl rfl fun w hw => ?_ | refine zc5 (fun _ => ?_) fun _ => ?_ | refine zp3 (fun _ => ?_) fun _ => ?_ | refine zp6 (fun _ => ?_) fun _ => ?_ | refine zc6 (fun _ => ?_) fun _ => ?_))
    refine CW_seq ?_
    (repeat' (first | refine zg1 ?_ | refine WL_nil ?_ | refine WQ_end ?_ | refine zc7 ?_ | refine CW_region ?_ | refine zc1 ?_ | refine zc2 ?_ | refine zc3 ?_ | refine zc4 ?_ | refine CW_skip ?_ | refine CW_ret ?_ | refine CW_exit ?_ | refine CW_block ?_ | refine EX_seq ?_ | refine EX_seq_ret ?_ | refine EX_blk ?_ | refine EX_blk_ret ?_ | refine EX_loop_ret ?_ | refine zx1 ?_ | refine zx2 ?_ | refine EX_seq_exit ?_ | refine EX_loop_exit ?_ | refine EX_mid_ret ?_ | refine EX_mid_exit ?_ | refine zr1 fun w hw => ?_ | refine zr2 fun w hw => ?_ | refine zr0 fun w hw => ?_ | refine zr4 fun w hw => ?_ | refine zr3 fun w hw => ?_ | refine zg4 ?_ | refine zg2 ?_ | refine zg5 ?_ | refine zp4 ?_ | refine zp5 ?_ | refine zc8 ?_ | refine zc9 ?_ | refine zg3 ?_ | refine zg6 ?_ | refine WB_end ?_ | refine zp1 ?_ | refine zp2 ?_ | refine zm9 fun _ => ?_ | refine zm2 fun _ => ?_ | refine zm1 fun _ _ => ?_ | refine za1 fun _ _ => ?_ | refine za2 fun _ _ => ?_ | refine zm4 ?_ | refine zm5 ?_ | refine zm6 ?_ | refine zm7 fun _ => ?_ | refine zm8 fun _ => ?_ | refine zm3 fun _ => ?_ | refine zr5 rfl rfl rfl fun w hw => ?_ | refine zr6 rfl rfl rfl fun w hw => ?_ | refine zc5 (fun _ => ?_) fun _ => ?_ | refine zp3 (fun _ => ?_) fun _ => ?_ | refine zp6 (fun _ => ?_) fun _ => ?_ | refine zc6 (fun _ => ?_) fun _ => ?_))
    (apply WL_callV; rfl; rfl; rfl; (intro W hW; exact hT W hW.below))
    (repeat' (first | refine zg1 ?_ | refine WL_nil ?_ | refine WQ_end ?_ | refine zc7 ?_ | refine CW_region ?_ | refine zc1 ?_ | refine zc2 ?_ | refine zc3 ?_ | refine zc4 ?_ | refine CW_skip ?_ | refine CW_ret ?_ | refine CW_exit ?_ | refine CW_block ?_ | refine EX_seq ?_ | refine EX_seq_ret ?_ | refine EX_blk ?_ | refine EX_blk_ret ?_ | refine EX_loop_ret ?_ | refine zx1 ?_ | refine zx2 ?_ | refine EX_seq_exit ?_ | refine EX_loop_exit ?_ | refine EX_mid_ret ?_ | refine EX_mid_exit ?_ | refine zr1 fun w hw => ?_ | refine zr2 fun w hw => ?_ | refine zr0 fun w hw => ?_ | refine zr4 fun w hw => ?_ | refine zr3 fun w hw => ?_ | refine zg4 ?_ | refine zg2 ?_ | refine zg5 ?_ | refine zp4 ?_ | refine zp5 ?_ | refine zc8 ?_ | refine zc9 ?_ | refine zg3 ?_ | refine zg6 ?_ | refine WB_end ?_ | refine zp1 ?_ | refine zp2 ?_ | refine zm9 fun _ => ?_ | refine zm2 fun _ => ?_ | refine zm1 fun _ _ => ?_ | refine za1 fun _ _ => ?_ | refine za2 fun _ _ => ?_ | refine zm4 ?_ | refine zm5 ?_ | refine zm6 ?_ | refine zm7 fun _ => ?_ | refine zm8 fun _ => ?_ | refine zm3 fun _ => ?_ | refine zr5 rfl rfl rfl fun w hw => ?_ | refine zr6 rfl rfl rfl fun w hw => ?_ | refine zc5 (fun _ => ?_) fun _ => ?_ | refine zp3 (fun _ => ?_) fun _ => ?_ | refine zp6 (fun _ => ?_) fun _ => ?_ | refine zc6 (fun _ => ?_) fun _ => ?_))
    (apply WL_callV; rfl; rfl; rfl; (intro W hW; exact same_Error (checkF ch s d) (checkF ch s d) W (hH.below hW.below)))
    (repeat' (first | refine zg1 ?_ | refine WL_nil ?_ | refine WQ_end ?_ | refine zc7 ?_ | refine CW_region ?_ | refine zc1 ?_ | refine zc2 ?_ | refine zc3 ?_ | refine zc4 ?_ | refine CW_skip ?_ | refine CW_ret ?_ | refine CW_exit ?_ | refine CW_block ?_ | refine EX_seq ?_ | refine EX_seq_ret ?_ | refine EX_blk ?_ | refine EX_blk_ret ?_ | refine EX_loop_ret ?_ | refine zx1 ?_ | refine zx2 ?_ | refine EX_seq_exit ?_ | refine EX_loop_exit ?_ | refine EX_mid_ret ?_ | refine EX_mid_exit ?_ | refine zr1 fun w hw => ?_ | refine zr2 fun w hw => ?_ | refine zr0 fun w hw => ?_ | refine zr4 fun w hw => ?_ | refine zr3 fun w hw => ?_ | refine zg4 ?_ | refine zg2 ?_ | refine zg5 ?_ | refine zp4 ?_ | refine zp5 ?_ | refine zc8 ?_ | refine zc9 ?_ | refine zg3 ?_ | refine zg6 ?_ | refine WB_end ?_ | refine zp1 ?_ | refine zp2 ?_ | refine zm9 fun _ => ?_ | refine zm2 fun _ => ?_ | refine zm1 fun _ _ => ?_ | refine za1 fun _ _ => ?_ | refine za2 fun _ _ => ?_ | refine zm4 ?_ | refine zm5 ?_ | refine zm6 ?_ | refine zm7 fun _ => ?_ | refine zm8 fun _ => ?_ | refine zm3 fun _ => ?_ | refine zr5 rfl rfl rfl fun w hw => ?_ | refine zr6 rfl rfl rfl fun w hw => ?_ | refine zc5 (fun _ => ?_) fun _ => ?_ | refine zp3 (fun _ => ?_) fun _ => ?_ | refine zp6 (fun _ => ?_) fun _ => ?_ | refine zc6 (fun _ => ?_) fun _ => ?_))
    exact ⟨by simp, hw.below⟩
end Go.Proofs.YtbgjcadjkkddhaaDoor
