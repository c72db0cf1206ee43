/-
  The reference's reading of a number, told plainly, is the common one. Of no program.
  ravelinref3: a word's signs, numbers, quotes: what the reference reads.
  ravelinref3: quoted, word: the word with which a text goes on.
  ravelinref3: word: the word with which a text goes on.
-/
import Derived.Test.YtnnidacekljihaaGreatDoorAgainPlain
import Derived.Test.YtnnidacekljihaaGreatDoorGo
import Derived.Test.YtnnidacekljihaaGreatDoorRetC
import Derived.Test.YtnnidacekljihaaGreatDoorRefLet
import Derived.Test.YtnnidacekljihaaGreatDoorRefBegins
namespace Go.Proofs.YtnnidacekljihaaGreatDoor

/-- ravelinref3.whole's round -/
def wholeG (n : Int) : List UInt8 → Option Int
  | [] => some n
  | b :: r => if n < Int.tdiv (-9223372036854775808 + ((b.toNat : Int) - 48)) 10 then none else wholeG (n * 10 - ((b.toNat : Int) - 48)) r
def wholeF (neg : Bool) (ds : List UInt8) : Option Int := match wholeG 0 ds with
  | none => none
  | some n => if neg = true then some n else if n = -9223372036854775808 then none else some (-n)
theorem tdiv_low (d : Int) (h : 0 ≤ d ∧ d ≤ 9) : Int.tdiv (-9223372036854775808 + d) 10 = -((9223372036854775808 - d) / 10) := by
  have e : -9223372036854775808 + d = -(9223372036854775808 - d) := by omega
  rw [e, Int.neg_tdiv, Int.tdiv_eq_ediv_of_nonneg (by omega)]
theorem wholeG_spec : ∀ (ds : List UInt8) (v : Nat), (∀ d ∈ ds, isDigitB d = true) → v ≤ 9223372036854775808 →
    wholeG (-(v : Int)) ds = if ds.foldl (fun n b => n * 10 + (b.toNat - 48)) v ≤ 9223372036854775808 then some (-((ds.foldl (fun n b => n * 10 + (b.toNat - 48)) v : Nat) : Int)) else none
  | [], v, _, hv => by rw [List.foldl_nil, if_pos hv]; rfl
  | d :: ds, v, hd, hv => by
    have h1 : isDigitB d = true := hd d (by simp)
    unfold isDigitB at h1
    simp at h1
    have h48 : 48 ≤ d.toNat ∧ d.toNat ≤ 57 := h1
    rw [List.foldl_cons, wholeG, tdiv_low _ (by omega)]
    have hm := fold_le ds (v * 10 + (d.toNat - 48))
    by_cases hlt : -(v : Int) < -((9223372036854775808 - ((d.toNat : Int) - 48)) / 10)
    · rw [if_pos hlt, if_neg (by omega)]
    · rw [if_neg hlt]
      have e : -(v : Int) * 10 - ((d.toNat : Int) - 48) = -((v * 10 + (d.toNat - 48) : Nat) : Int) := by omega
      rw [e]
      exact wholeG_spec ds _ (fun x hx => hd x (by simp [hx])) (by omega)
theorem whole_num (neg : Bool) (ds : List UInt8) (hd : ∀ d ∈ ds, isDigitB d = true) : wholeF neg ds = numF neg ds := by
  have h := wholeG_spec ds 0 hd (by omega)
  unfold wholeF numF decV
  rw [show (0 : Int) = -((0 : Nat) : Int) by simp, h]
  generalize ds.foldl (fun n b => n * 10 + (b.toNat - 48)) 0 = V
  by_cases hV : V ≤ 9223372036854775808
  · rw [if_pos hV]
    cases neg with
    | true => simp
    | false =>
      by_cases h2 : V ≤ 9223372036854775807
      · simp only [Bool.false_eq_true, if_false]
        rw [if_neg (by omega), if_pos h2]
        simp
      · simp only [Bool.false_eq_true, if_false]
        rw [if_pos (by omega), if_neg h2]
  · rw [if_neg hV]
    cases neg with
    | true => simp
    | false => simp; omega
end Go.Proofs.YtnnidacekljihaaGreatDoor

namespace Go.Proofs.YtnnidacekljihaaGreatDoor
open Go.RowKit

set_option maxHeartbeats 2000000 in
set_option maxRecDepth 100000 in
theorem ref_sign (s : List UInt8) (a : Nat) (ha : a ≤ s.length) (hs : s.length ≤ 1099511627776) (l : List UInt8) (gs : List (List UInt8)) (hl : l = gs.flatten) (hlen : l.length ≤ 1000) (wf : WfS gs) (w : World) :
    Calls Tryz.prog 38 #[.string ⟨s.toArray⟩, .int .i64 (a : Int), .string ⟨l.toArray⟩] w fun e w' => e = .returned (.tuple #[.int .i64 ((signL gs 1 (s.drop a)).1 : Nat), .int .i64 ((signL gs 1 (s.drop a)).2 : Nat)]) ∧ Below w.heap.size w w' := by
  refine enter (args := [_, _, _]) (m := []) (F := []) Tryz.func38 rfl Tryz.ntmps38 (by simp) rfl ?_
  (repeat' (first|refine zg1 ?_|refine WL_nil ?_|refine WQ_end ?_|refine zc7 ?_|refine CW_region ?_|refine zc1 ?_|refine zc2 ?_|refine zc3 ?_|refine zc4 ?_|refine CW_skip ?_|refine CW_ret ?_|refine CW_exit ?_|refine CW_block ?_|refine EX_seq ?_|refine EX_seq_ret ?_|refine EX_blk ?_|refine EX_blk_ret ?_|refine EX_loop_ret ?_|refine zx1 ?_|refine zx2 ?_|refine EX_seq_exit ?_|refine EX_loop_exit ?_|refine EX_mid_ret ?_|refine EX_mid_exit ?_|refine zr1 fun w hw => ?_|refine zr2 fun w hw => ?_|refine zr0 fun w hw => ?_|refine zr4 fun w hw => ?_|refine zr3 fun w hw => ?_|refine zg4 ?_|refine zg2 ?_|refine zg5 ?_|refine zp4 ?_|refine zp5 ?_|refine zc8 ?_|refine zp1 ?_|refine zp2 ?_|refine zm9 fun _ => ?_|refine zm2 fun _ => ?_|refine zm1 fun _ _ => ?_|refine za1 fun _ _ => ?_|refine za2 fun _ _ => ?_|refine zm4 ?_|refine zm5 ?_|refine zm6 ?_|refine zm7 fun _ => ?_|refine zm8 fun _ => ?_|refine zm3 fun _ => ?_|refine zcS ?_|refine zcT ?_|refine zp7 ?_|refine zp8 ?_|refine zq7 ?_|refine zq8 ?_|refine zc5 (fun _ => ?_) fun _ => ?_|refine zp3 (fun _ => ?_) fun _ => ?_|refine zp6 (fun _ => ?_) fun _ => ?_|refine zc6 (fun _ => ?_) fun _ => ?_))
  refine CW_loopP [(0,_),(1,_),(2,_)] (by repeat (first | exact Cov.nil | refine Cov.cons rfl (by first | rfl | (congr 1; omega) | assumption) ?_)) (fun x : Nat => [(9, .int .i64 ((gs.take x).flatten.length : Nat)), (8, .int .i64 (x : Nat))]) (fun x => x ≤ gs.length ∧ signL gs 1 (s.drop a) = signL (gs.drop x) (x + 1) (s.drop a)) (fun x => gs.length - x) 0 ⟨Nat.zero_le _, rfl⟩ (by repeat (first | exact Cov.nil | refine Cov.cons rfl (by first | rfl | (congr 1; omega) | assumption) ?_)) ?_
  rintro j ⟨hj, hz⟩
  by_cases hlt : j < gs.length
  · have hg := get_some hlt []
    obtain ⟨b, t, hgb, hgl⟩ := wf _ (List.mem_of_getElem? hg)
    have hf := flat_at hg
    have ht := flat_take hg
    rw [← hl] at hf
    rw [drop_cons hg, signL] at hz
    generalize hA : (gs.take j).flatten = A at hf ht ⊢
    generalize hB : (gs.drop (j + 1)).flatten = B at hf
    have hjl : gs.length ≤ l.length := by
      rw [hl]
      clear hz hf ht hg hgb hgl hlt hj hA hB hl hlen
      induction gs with
      | nil => simp
      | cons g gs ih =>
        obtain ⟨b, t, hgb, _⟩ := wf g (by simp)
        have := ih (fun x hx => wf x (by simp [hx]))
        rw [List.flatten_cons, List.length_append, hgb, List.length_cons, List.length_cons]; omega
    have hll : l.length = A.length + ((gs.getD j []).length + B.length) := by rw [hf]; simp
    have hb : (l.getD A.length 0).toNat = b.toNat := by rw [hf, hgb]; simp
    have hs' : (l.take (A.length + (gs.getD j []).length)).drop A.length = gs.getD j [] := by
      rw [hf, ← List.append_assoc, ← List.length_append, List.take_left, List.drop_left]
    have hgp : 1 ≤ (gs.getD j []).length := by rw [hgb]; simp
    have hC : ∀ (W : World) (x : Nat), x = (gs.getD j []).length → Calls Tryz.prog 16 #[.string ⟨s.toArray⟩, .int .i64 (a : Int), .string ⟨((l.take (A.length + x)).drop A.length).toArray⟩] W fun e w' => e = .returned (.bool ((gs.getD j []).isPrefixOf (s.drop a))) ∧ Below W.heap.size W w' := by
      rintro W x rfl
      rw [hs']
      exact ref_Begins s a _ W hs (by omega) ha
    cases hp : (gs.getD j []).isPrefixOf (s.drop a) with
    | true =>
      rw [hp] at hC
      rw [hp, if_pos rfl] at hz
      unfold longB at hgl
      by_cases h3 : 224 ≤ b.toNat
      · rw [if_pos h3] at hgl
        (repeat' (first|refine zg1 ?_|refine WL_nil ?_|refine WQ_end ?_|refine zc7 ?_|refine CW_region ?_|refine zc1 ?_|refine zc2 ?_|refine zc3 ?_|refine zc4 ?_|refine CW_skip ?_|refine CW_ret ?_|refine CW_exit ?_|refine CW_block ?_|refine EX_seq ?_|refine EX_seq_ret ?_|refine EX_blk ?_|refine EX_blk_ret ?_|refine EX_loop_ret ?_|refine zx1 ?_|refine zx2 ?_|refine EX_seq_exit ?_|refine EX_loop_exit ?_|refine EX_mid_ret ?_|refine EX_mid_exit ?_|refine zr1 fun w hw => ?_|refine zr2 fun w hw => ?_|refine zr0 fun w hw => ?_|refine zr4 fun w hw => ?_|refine zr3 fun w hw => ?_|refine zg4 ?_|refine zg2 ?_|refine zg5 ?_|refine zp4 ?_|refine zp5 ?_|refine zc8 ?_|refine zp1 ?_|refine zp2 ?_|refine zm9 fun _ => ?_|refine zm2 fun _ => ?_|refine zm1 fun _ _ => ?_|refine za1 fun _ _ => ?_|refine za2 fun _ _ => ?_|refine zm4 ?_|refine zm5 ?_|refine zm6 ?_|refine zm7 fun _ => ?_|refine zm8 fun _ => ?_|refine zm3 fun _ => ?_|refine zcS ?_|refine zcT ?_|refine zp7 ?_|refine zp8 ?_|refine zq7 ?_|refine zq8 ?_|refine zc5 (fun _ => ?_) fun _ => ?_|refine zp3 (fun _ => ?_) fun _ => ?_|refine zp6 (fun _ => ?_) fun _ => ?_|refine zc6 (fun _ => ?_) fun _ => ?_))
        refine CW_seq ?_
        (repeat' (first|refine zg1 ?_|refine WL_nil ?_|refine WQ_end ?_|refine zc7 ?_|refine CW_region ?_|refine zc1 ?_|refine zc2 ?_|refine zc3 ?_|refine zc4 ?_|refine CW_skip ?_|refine CW_ret ?_|refine CW_exit ?_|refine CW_block ?_|refine EX_seq ?_|refine EX_seq_ret ?_|refine EX_blk ?_|refine EX_blk_ret ?_|refine EX_loop_ret ?_|refine zx1 ?_|refine zx2 ?_|refine EX_seq_exit ?_|refine EX_loop_exit ?_|refine EX_mid_ret ?_|refine EX_mid_exit ?_|refine zr1 fun w hw => ?_|refine zr2 fun w hw => ?_|refine zr0 fun w hw => ?_|refine zr4 fun w hw => ?_|refine zr3 fun w hw => ?_|refine zg4 ?_|refine zg2 ?_|refine zg5 ?_|refine zp4 ?_|refine zp5 ?_|refine zc8 ?_|refine zp1 ?_|refine zp2 ?_|refine zm9 fun _ => ?_|refine zm2 fun _ => ?_|refine zm1 fun _ _ => ?_|refine za1 fun _ _ => ?_|refine za2 fun _ _ => ?_|refine zm4 ?_|refine zm5 ?_|refine zm6 ?_|refine zm7 fun _ => ?_|refine zm8 fun _ => ?_|refine zm3 fun _ => ?_|refine zcS ?_|refine zcT ?_|refine zp7 ?_|refine zp8 ?_|refine zq7 ?_|refine zq8 ?_|refine zc5 (fun _ => ?_) fun _ => ?_|refine zp3 (fun _ => ?_) fun _ => ?_|refine zp6 (fun _ => ?_) fun _ => ?_|refine zc6 (fun _ => ?_) fun _ => ?_))
        (apply WL_callV; rfl; rfl; rfl; (intro W hW; exact hC W 3 (by omega)))
        (repeat' (first|refine zg1 ?_|refine WL_nil ?_|refine WQ_end ?_|refine zc7 ?_|refine CW_region ?_|refine zc1 ?_|refine zc2 ?_|refine zc3 ?_|refine zc4 ?_|refine CW_skip ?_|refine CW_ret ?_|refine CW_exit ?_|refine CW_block ?_|refine EX_seq ?_|refine EX_seq_ret ?_|refine EX_blk ?_|refine EX_blk_ret ?_|refine EX_loop_ret ?_|refine zx1 ?_|refine zx2 ?_|refine EX_seq_exit ?_|refine EX_loop_exit ?_|refine EX_mid_ret ?_|refine EX_mid_exit ?_|refine zr1 fun w hw => ?_|refine zr2 fun w hw => ?_|refine zr0 fun w hw => ?_|refine zr4 fun w hw => ?_|refine zr3 fun w hw => ?_|refine zg4 ?_|refine zg2 ?_|refine zg5 ?_|refine zp4 ?_|refine zp5 ?_|refine zc8 ?_|refine zp1 ?_|refine zp2 ?_|refine zm9 fun _ => ?_|refine zm2 fun _ => ?_|refine zm1 fun _ _ => ?_|refine za1 fun _ _ => ?_|refine za2 fun _ _ => ?_|refine zm4 ?_|refine zm5 ?_|refine zm6 ?_|refine zm7 fun _ => ?_|refine zm8 fun _ => ?_|refine zm3 fun _ => ?_|refine zcS ?_|refine zcT ?_|refine zp7 ?_|refine zp8 ?_|refine zq7 ?_|refine zq8 ?_|refine zc5 (fun _ => ?_) fun _ => ?_|refine zp3 (fun _ => ?_) fun _ => ?_|refine zp6 (fun _ => ?_) fun _ => ?_|refine zc6 (fun _ => ?_) fun _ => ?_))
        exact ⟨by rw [hz, hgl]; rfl, hw.below⟩
      by_cases h2 : 192 ≤ b.toNat
      · rw [if_neg h3, if_pos h2] at hgl
        (repeat' (first|refine zg1 ?_|refine WL_nil ?_|refine WQ_end ?_|refine zc7 ?_|refine CW_region ?_|refine zc1 ?_|refine zc2 ?_|refine zc3 ?_|refine zc4 ?_|refine CW_skip ?_|refine CW_ret ?_|refine CW_exit ?_|refine CW_block ?_|refine EX_seq ?_|refine EX_seq_ret ?_|refine EX_blk ?_|refine EX_blk_ret ?_|refine EX_loop_ret ?_|refine zx1 ?_|refine zx2 ?_|refine EX_seq_exit ?_|refine EX_loop_exit ?_|refine EX_mid_ret ?_|refine EX_mid_exit ?_|refine zr1 fun w hw => ?_|refine zr2 fun w hw => ?_|refine zr0 fun w hw => ?_|refine zr4 fun w hw => ?_|refine zr3 fun w hw => ?_|refine zg4 ?_|refine zg2 ?_|refine zg5 ?_|refine zp4 ?_|refine zp5 ?_|refine zc8 ?_|refine zp1 ?_|refine zp2 ?_|refine zm9 fun _ => ?_|refine zm2 fun _ => ?_|refine zm1 fun _ _ => ?_|refine za1 fun _ _ => ?_|refine za2 fun _ _ => ?_|refine zm4 ?_|refine zm5 ?_|refine zm6 ?_|refine zm7 fun _ => ?_|refine zm8 fun _ => ?_|refine zm3 fun _ => ?_|refine zcS ?_|refine zcT ?_|refine zp7 ?_|refine zp8 ?_|refine zq7 ?_|refine zq8 ?_|refine zc5 (fun _ => ?_) fun _ => ?_|refine zp3 (fun _ => ?_) fun _ => ?_|refine zp6 (fun _ => ?_) fun _ => ?_|refine zc6 (fun _ => ?_) fun _ => ?_))
        refine CW_seq ?_
        (repeat' (first|refine zg1 ?_|refine WL_nil ?_|refine WQ_end ?_|refine zc7 ?_|refine CW_region ?_|refine zc1 ?_|refine zc2 ?_|refine zc3 ?_|refine zc4 ?_|refine CW_skip ?_|refine CW_ret ?_|refine CW_exit ?_|refine CW_block ?_|refine EX_seq ?_|refine EX_seq_ret ?_|refine EX_blk ?_|refine EX_blk_ret ?_|refine EX_loop_ret ?_|refine zx1 ?_|refine zx2 ?_|refine EX_seq_exit ?_|refine EX_loop_exit ?_|refine EX_mid_ret ?_|refine EX_mid_exit ?_|refine zr1 fun w hw => ?_|refine zr2 fun w hw => ?_|refine zr0 fun w hw => ?_|refine zr4 fun w hw => ?_|refine zr3 fun w hw => ?_|refine zg4 ?_|refine zg2 ?_|refine zg5 ?_|refine zp4 ?_|refine zp5 ?_|refine zc8 ?_|refine zp1 ?_|refine zp2 ?_|refine zm9 fun _ => ?_|refine zm2 fun _ => ?_|refine zm1 fun _ _ => ?_|refine za1 fun _ _ => ?_|refine za2 fun _ _ => ?_|refine zm4 ?_|refine zm5 ?_|refine zm6 ?_|refine zm7 fun _ => ?_|refine zm8 fun _ => ?_|refine zm3 fun _ => ?_|refine zcS ?_|refine zcT ?_|refine zp7 ?_|refine zp8 ?_|refine zq7 ?_|refine zq8 ?_|refine zc5 (fun _ => ?_) fun _ => ?_|refine zp3 (fun _ => ?_) fun _ => ?_|refine zp6 (fun _ => ?_) fun _ => ?_|refine zc6 (fun _ => ?_) fun _ => ?_))
        (apply WL_callV; rfl; rfl; rfl; (intro W hW; exact hC W 2 (by omega)))
        (repeat' (first|refine zg1 ?_|refine WL_nil ?_|refine WQ_end ?_|refine zc7 ?_|refine CW_region ?_|refine zc1 ?_|refine zc2 ?_|refine zc3 ?_|refine zc4 ?_|refine CW_skip ?_|refine CW_ret ?_|refine CW_exit ?_|refine CW_block ?_|refine EX_seq ?_|refine EX_seq_ret ?_|refine EX_blk ?_|refine EX_blk_ret ?_|refine EX_loop_ret ?_|refine zx1 ?_|refine zx2 ?_|refine EX_seq_exit ?_|refine EX_loop_exit ?_|refine EX_mid_ret ?_|refine EX_mid_exit ?_|refine zr1 fun w hw => ?_|refine zr2 fun w hw => ?_|refine zr0 fun w hw => ?_|refine zr4 fun w hw => ?_|refine zr3 fun w hw => ?_|refine zg4 ?_|refine zg2 ?_|refine zg5 ?_|refine zp4 ?_|refine zp5 ?_|refine zc8 ?_|refine zp1 ?_|refine zp2 ?_|refine zm9 fun _ => ?_|refine zm2 fun _ => ?_|refine zm1 fun _ _ => ?_|refine za1 fun _ _ => ?_|refine za2 fun _ _ => ?_|refine zm4 ?_|refine zm5 ?_|refine zm6 ?_|refine zm7 fun _ => ?_|refine zm8 fun _ => ?_|refine zm3 fun _ => ?_|refine zcS ?_|refine zcT ?_|refine zp7 ?_|refine zp8 ?_|refine zq7 ?_|refine zq8 ?_|refine zc5 (fun _ => ?_) fun _ => ?_|refine zp3 (fun _ => ?_) fun _ => ?_|refine zp6 (fun _ => ?_) fun _ => ?_|refine zc6 (fun _ => ?_) fun _ => ?_))
        exact ⟨by rw [hz, hgl]; rfl, hw.below⟩
      · rw [if_neg h3, if_neg h2] at hgl
        (repeat' (first|refine zg1 ?_|refine WL_nil ?_|refine WQ_end ?_|refine zc7 ?_|refine CW_region ?_|refine zc1 ?_|refine zc2 ?_|refine zc3 ?_|refine zc4 ?_|refine CW_skip ?_|refine CW_ret ?_|refine CW_exit ?_|refine CW_block ?_|refine EX_seq ?_|refine EX_seq_ret ?_|refine EX_blk ?_|refine EX_blk_ret ?_|refine EX_loop_ret ?_|refine zx1 ?_|refine zx2 ?_|refine EX_seq_exit ?_|refine EX_loop_exit ?_|refine EX_mid_ret ?_|refine EX_mid_exit ?_|refine zr1 fun w hw => ?_|refine zr2 fun w hw => ?_|refine zr0 fun w hw => ?_|refine zr4 fun w hw => ?_|refine zr3 fun w hw => ?_|refine zg4 ?_|refine zg2 ?_|refine zg5 ?_|refine zp4 ?_|refine zp5 ?_|refine zc8 ?_|refine zp1 ?_|refine zp2 ?_|refine zm9 fun _ => ?_|refine zm2 fun _ => ?_|refine zm1 fun _ _ => ?_|refine za1 fun _ _ => ?_|refine za2 fun _ _ => ?_|refine zm4 ?_|refine zm5 ?_|refine zm6 ?_|refine zm7 fun _ => ?_|refine zm8 fun _ => ?_|refine zm3 fun _ => ?_|refine zcS ?_|refine zcT ?_|refine zp7 ?_|refine zp8 ?_|refine zq7 ?_|refine zq8 ?_|refine zc5 (fun _ => ?_) fun _ => ?_|refine zp3 (fun _ => ?_) fun _ => ?_|refine zp6 (fun _ => ?_) fun _ => ?_|refine zc6 (fun _ => ?_) fun _ => ?_))
        refine CW_seq ?_
        (repeat' (first|refine zg1 ?_|refine WL_nil ?_|refine WQ_end ?_|refine zc7 ?_|refine CW_region ?_|refine zc1 ?_|refine zc2 ?_|refine zc3 ?_|refine zc4 ?_|refine CW_skip ?_|refine CW_ret ?_|refine CW_exit ?_|refine CW_block ?_|refine EX_seq ?_|refine EX_seq_ret ?_|refine EX_blk ?_|refine EX_blk_ret ?_|refine EX_loop_ret ?_|refine zx1 ?_|refine zx2 ?_|refine EX_seq_exit ?_|refine EX_loop_exit ?_|refine EX_mid_ret ?_|refine EX_mid_exit ?_|refine zr1 fun w hw => ?_|refine zr2 fun w hw => ?_|refine zr0 fun w hw => ?_|refine zr4 fun w hw => ?_|refine zr3 fun w hw => ?_|refine zg4 ?_|refine zg2 ?_|refine zg5 ?_|refine zp4 ?_|refine zp5 ?_|refine zc8 ?_|refine zp1 ?_|refine zp2 ?_|refine zm9 fun _ => ?_|refine zm2 fun _ => ?_|refine zm1 fun _ _ => ?_|refine za1 fun _ _ => ?_|refine za2 fun _ _ => ?_|refine zm4 ?_|refine zm5 ?_|refine zm6 ?_|refine zm7 fun _ => ?_|refine zm8 fun _ => ?_|refine zm3 fun _ => ?_|refine zcS ?_|refine zcT ?_|refine zp7 ?_|refine zp8 ?_|refine zq7 ?_|refine zq8 ?_|refine zc5 (fun _ => ?_) fun _ => ?_|refine zp3 (fun _ => ?_) fun _ => ?_|refine zp6 (fun _ => ?_) fun _ => ?_|refine zc6 (fun _ => ?_) fun _ => ?_))
        (apply WL_callV; rfl; rfl; rfl; (intro W hW; exact hC W 1 (by omega)))
        (repeat' (first|refine zg1 ?_|refine WL_nil ?_|refine WQ_end ?_|refine zc7 ?_|refine CW_region ?_|refine zc1 ?_|refine zc2 ?_|refine zc3 ?_|refine zc4 ?_|refine CW_skip ?_|refine CW_ret ?_|refine CW_exit ?_|refine CW_block ?_|refine EX_seq ?_|refine EX_seq_ret ?_|refine EX_blk ?_|refine EX_blk_ret ?_|refine EX_loop_ret ?_|refine zx1 ?_|refine zx2 ?_|refine EX_seq_exit ?_|refine EX_loop_exit ?_|refine EX_mid_ret ?_|refine EX_mid_exit ?_|refine zr1 fun w hw => ?_|refine zr2 fun w hw => ?_|refine zr0 fun w hw => ?_|refine zr4 fun w hw => ?_|refine zr3 fun w hw => ?_|refine zg4 ?_|refine zg2 ?_|refine zg5 ?_|refine zp4 ?_|refine zp5 ?_|refine zc8 ?_|refine zp1 ?_|refine zp2 ?_|refine zm9 fun _ => ?_|refine zm2 fun _ => ?_|refine zm1 fun _ _ => ?_|refine za1 fun _ _ => ?_|refine za2 fun _ _ => ?_|refine zm4 ?_|refine zm5 ?_|refine zm6 ?_|refine zm7 fun _ => ?_|refine zm8 fun _ => ?_|refine zm3 fun _ => ?_|refine zcS ?_|refine zcT ?_|refine zp7 ?_|refine zp8 ?_|refine zq7 ?_|refine zq8 ?_|refine zc5 (fun _ => ?_) fun _ => ?_|refine zp3 (fun _ => ?_) fun _ => ?_|refine zp6 (fun _ => ?_) fun _ => ?_|refine zc6 (fun _ => ?_) fun _ => ?_))
        exact ⟨by rw [hz, hgl]; rfl, hw.below⟩
    | false =>
      rw [hp] at hC
      rw [hp, if_neg (by simp)] at hz
      unfold longB at hgl
      by_cases h3 : 224 ≤ b.toNat
      · rw [if_pos h3] at hgl
        (repeat' (first|refine zg1 ?_|refine WL_nil ?_|refine WQ_end ?_|refine zc7 ?_|refine CW_region ?_|refine zc1 ?_|refine zc2 ?_|refine zc3 ?_|refine zc4 ?_|refine CW_skip ?_|refine CW_ret ?_|refine CW_exit ?_|refine CW_block ?_|refine EX_seq ?_|refine EX_seq_ret ?_|refine EX_blk ?_|refine EX_blk_ret ?_|refine EX_loop_ret ?_|refine zx1 ?_|refine zx2 ?_|refine EX_seq_exit ?_|refine EX_loop_exit ?_|refine EX_mid_ret ?_|refine EX_mid_exit ?_|refine zr1 fun w hw => ?_|refine zr2 fun w hw => ?_|refine zr0 fun w hw => ?_|refine zr4 fun w hw => ?_|refine zr3 fun w hw => ?_|refine zg4 ?_|refine zg2 ?_|refine zg5 ?_|refine zp4 ?_|refine zp5 ?_|refine zc8 ?_|refine zp1 ?_|refine zp2 ?_|refine zm9 fun _ => ?_|refine zm2 fun _ => ?_|refine zm1 fun _ _ => ?_|refine za1 fun _ _ => ?_|refine za2 fun _ _ => ?_|refine zm4 ?_|refine zm5 ?_|refine zm6 ?_|refine zm7 fun _ => ?_|refine zm8 fun _ => ?_|refine zm3 fun _ => ?_|refine zcS ?_|refine zcT ?_|refine zp7 ?_|refine zp8 ?_|refine zq7 ?_|refine zq8 ?_|refine zc5 (fun _ => ?_) fun _ => ?_|refine zp3 (fun _ => ?_) fun _ => ?_|refine zp6 (fun _ => ?_) fun _ => ?_|refine zc6 (fun _ => ?_) fun _ => ?_))
        refine CW_seq ?_
        (repeat' (first|refine zg1 ?_|refine WL_nil ?_|refine WQ_end ?_|refine zc7 ?_|refine CW_region ?_|refine zc1 ?_|refine zc2 ?_|refine zc3 ?_|refine zc4 ?_|refine CW_skip ?_|refine CW_ret ?_|refine CW_exit ?_|refine CW_block ?_|refine EX_seq ?_|refine EX_seq_ret ?_|refine EX_blk ?_|refine EX_blk_ret ?_|refine EX_loop_ret ?_|refine zx1 ?_|refine zx2 ?_|refine EX_seq_exit ?_|refine EX_loop_exit ?_|refine EX_mid_ret ?_|refine EX_mid_exit ?_|refine zr1 fun w hw => ?_|refine zr2 fun w hw => ?_|refine zr0 fun w hw => ?_|refine zr4 fun w hw => ?_|refine zr3 fun w hw => ?_|refine zg4 ?_|refine zg2 ?_|refine zg5 ?_|refine zp4 ?_|refine zp5 ?_|refine zc8 ?_|refine zp1 ?_|refine zp2 ?_|refine zm9 fun _ => ?_|refine zm2 fun _ => ?_|refine zm1 fun _ _ => ?_|refine za1 fun _ _ => ?_|refine za2 fun _ _ => ?_|refine zm4 ?_|refine zm5 ?_|refine zm6 ?_|refine zm7 fun _ => ?_|refine zm8 fun _ => ?_|refine zm3 fun _ => ?_|refine zcS ?_|refine zcT ?_|refine zp7 ?_|refine zp8 ?_|refine zq7 ?_|refine zq8 ?_|refine zc5 (fun _ => ?_) fun _ => ?_|refine zp3 (fun _ => ?_) fun _ => ?_|refine zp6 (fun _ => ?_) fun _ => ?_|refine zc6 (fun _ => ?_) fun _ => ?_))
        (apply WL_callV; rfl; rfl; rfl; (intro W hW; exact hC W 3 (by omega)))
        (repeat' (first|refine zg1 ?_|refine WL_nil ?_|refine WQ_end ?_|refine zc7 ?_|refine CW_region ?_|refine zc1 ?_|refine zc2 ?_|refine zc3 ?_|refine zc4 ?_|refine CW_skip ?_|refine CW_ret ?_|refine CW_exit ?_|refine CW_block ?_|refine EX_seq ?_|refine EX_seq_ret ?_|refine EX_blk ?_|refine EX_blk_ret ?_|refine EX_loop_ret ?_|refine zx1 ?_|refine zx2 ?_|refine EX_seq_exit ?_|refine EX_loop_exit ?_|refine EX_mid_ret ?_|refine EX_mid_exit ?_|refine zr1 fun w hw => ?_|refine zr2 fun w hw => ?_|refine zr0 fun w hw => ?_|refine zr4 fun w hw => ?_|refine zr3 fun w hw => ?_|refine zg4 ?_|refine zg2 ?_|refine zg5 ?_|refine zp4 ?_|refine zp5 ?_|refine zc8 ?_|refine zp1 ?_|refine zp2 ?_|refine zm9 fun _ => ?_|refine zm2 fun _ => ?_|refine zm1 fun _ _ => ?_|refine za1 fun _ _ => ?_|refine za2 fun _ _ => ?_|refine zm4 ?_|refine zm5 ?_|refine zm6 ?_|refine zm7 fun _ => ?_|refine zm8 fun _ => ?_|refine zm3 fun _ => ?_|refine zcS ?_|refine zcT ?_|refine zp7 ?_|refine zp8 ?_|refine zq7 ?_|refine zq8 ?_|refine zc5 (fun _ => ?_) fun _ => ?_|refine zp3 (fun _ => ?_) fun _ => ?_|refine zp6 (fun _ => ?_) fun _ => ?_|refine zc6 (fun _ => ?_) fun _ => ?_))
        refine EX_loop' (j + 1) ⟨?_, Ent.refl, by omega, by omega, hz⟩
        rw [ht]
        exact (by repeat (first | exact Cov.nil | refine Cov.cons rfl (by first | rfl | (congr 1; omega) | assumption) ?_))
      by_cases h2 : 192 ≤ b.toNat
      · rw [if_neg h3, if_pos h2] at hgl
        (repeat' (first|refine zg1 ?_|refine WL_nil ?_|refine WQ_end ?_|refine zc7 ?_|refine CW_region ?_|refine zc1 ?_|refine zc2 ?_|refine zc3 ?_|refine zc4 ?_|refine CW_skip ?_|refine CW_ret ?_|refine CW_exit ?_|refine CW_block ?_|refine EX_seq ?_|refine EX_seq_ret ?_|refine EX_blk ?_|refine EX_blk_ret ?_|refine EX_loop_ret ?_|refine zx1 ?_|refine zx2 ?_|refine EX_seq_exit ?_|refine EX_loop_exit ?_|refine EX_mid_ret ?_|refine EX_mid_exit ?_|refine zr1 fun w hw => ?_|refine zr2 fun w hw => ?_|refine zr0 fun w hw => ?_|refine zr4 fun w hw => ?_|refine zr3 fun w hw => ?_|refine zg4 ?_|refine zg2 ?_|refine zg5 ?_|refine zp4 ?_|refine zp5 ?_|refine zc8 ?_|refine zp1 ?_|refine zp2 ?_|refine zm9 fun _ => ?_|refine zm2 fun _ => ?_|refine zm1 fun _ _ => ?_|refine za1 fun _ _ => ?_|refine za2 fun _ _ => ?_|refine zm4 ?_|refine zm5 ?_|refine zm6 ?_|refine zm7 fun _ => ?_|refine zm8 fun _ => ?_|refine zm3 fun _ => ?_|refine zcS ?_|refine zcT ?_|refine zp7 ?_|refine zp8 ?_|refine zq7 ?_|refine zq8 ?_|refine zc5 (fun _ => ?_) fun _ => ?_|refine zp3 (fun _ => ?_) fun _ => ?_|refine zp6 (fun _ => ?_) fun _ => ?_|refine zc6 (fun _ => ?_) fun _ => ?_))
        refine CW_seq ?_
        (repeat' (first|refine zg1 ?_|refine WL_nil ?_|refine WQ_end ?_|refine zc7 ?_|refine CW_region ?_|refine zc1 ?_|refine zc2 ?_|refine zc3 ?_|refine zc4 ?_|refine CW_skip ?_|refine CW_ret ?_|refine CW_exit ?_|refine CW_block ?_|refine EX_seq ?_|refine EX_seq_ret ?_|refine EX_blk ?_|refine EX_blk_ret ?_|refine EX_loop_ret ?_|refine zx1 ?_|refine zx2 ?_|refine EX_seq_exit ?_|refine EX_loop_exit ?_|refine EX_mid_ret ?_|refine EX_mid_exit ?_|refine zr1 fun w hw => ?_|refine zr2 fun w hw => ?_|refine zr0 fun w hw => ?_|refine zr4 fun w hw => ?_|refine zr3 fun w hw => ?_|refine zg4 ?_|refine zg2 ?_|refine zg5 ?_|refine zp4 ?_|refine zp5 ?_|refine zc8 ?_|refine zp1 ?_|refine zp2 ?_|refine zm9 fun _ => ?_|refine zm2 fun _ => ?_|refine zm1 fun _ _ => ?_|refine za1 fun _ _ => ?_|refine za2 fun _ _ => ?_|refine zm4 ?_|refine zm5 ?_|refine zm6 ?_|refine zm7 fun _ => ?_|refine zm8 fun _ => ?_|refine zm3 fun _ => ?_|refine zcS ?_|refine zcT ?_|refine zp7 ?_|refine zp8 ?_|refine zq7 ?_|refine zq8 ?_|refine zc5 (fun _ => ?_) fun _ => ?_|refine zp3 (fun _ => ?_) fun _ => ?_|refine zp6 (fun _ => ?_) fun _ => ?_|refine zc6 (fun _ => ?_) fun _ => ?_))
        (apply WL_callV; rfl; rfl; rfl; (intro W hW; exact hC W 2 (by omega)))
        (repeat' (first|refine zg1 ?_|refine WL_nil ?_|refine WQ_end ?_|refine zc7 ?_|refine CW_region ?_|refine zc1 ?_|refine zc2 ?_|refine zc3 ?_|refine zc4 ?_|refine CW_skip ?_|refine CW_ret ?_|refine CW_exit ?_|refine CW_block ?_|refine EX_seq ?_|refine EX_seq_ret ?_|refine EX_blk ?_|refine EX_blk_ret ?_|refine EX_loop_ret ?_|refine zx1 ?_|refine zx2 ?_|refine EX_seq_exit ?_|refine EX_loop_exit ?_|refine EX_mid_ret ?_|refine EX_mid_exit ?_|refine zr1 fun w hw => ?_|refine zr2 fun w hw => ?_|refine zr0 fun w hw => ?_|refine zr4 fun w hw => ?_|refine zr3 fun w hw => ?_|refine zg4 ?_|refine zg2 ?_|refine zg5 ?_|refine zp4 ?_|refine zp5 ?_|refine zc8 ?_|refine zp1 ?_|refine zp2 ?_|refine zm9 fun _ => ?_|refine zm2 fun _ => ?_|refine zm1 fun _ _ => ?_|refine za1 fun _ _ => ?_|refine za2 fun _ _ => ?_|refine zm4 ?_|refine zm5 ?_|refine zm6 ?_|refine zm7 fun _ => ?_|refine zm8 fun _ => ?_|refine zm3 fun _ => ?_|refine zcS ?_|refine zcT ?_|refine zp7 ?_|refine zp8 ?_|refine zq7 ?_|refine zq8 ?_|refine zc5 (fun _ => ?_) fun _ => ?_|refine zp3 (fun _ => ?_) fun _ => ?_|refine zp6 (fun _ => ?_) fun _ => ?_|refine zc6 (fun _ => ?_) fun _ => ?_))
        refine EX_loop' (j + 1) ⟨?_, Ent.refl, by omega, by omega, hz⟩
        rw [ht]
        exact (by repeat (first | exact Cov.nil | refine Cov.cons rfl (by first | rfl | (congr 1; omega) | assumption) ?_))
      · rw [if_neg h3, if_neg h2] at hgl
        (repeat' (first|refine zg1 ?_|refine WL_nil ?_|refine WQ_end ?_|refine zc7 ?_|refine CW_region ?_|refine zc1 ?_|refine zc2 ?_|refine zc3 ?_|refine zc4 ?_|refine CW_skip ?_|refine CW_ret ?_|refine CW_exit ?_|refine CW_block ?_|refine EX_seq ?_|refine EX_seq_ret ?_|refine EX_blk ?_|refine EX_blk_ret ?_|refine EX_loop_ret ?_|refine zx1 ?_|refine zx2 ?_|refine EX_seq_exit ?_|refine EX_loop_exit ?_|refine EX_mid_ret ?_|refine EX_mid_exit ?_|refine zr1 fun w hw => ?_|refine zr2 fun w hw => ?_|refine zr0 fun w hw => ?_|refine zr4 fun w hw => ?_|refine zr3 fun w hw => ?_|refine zg4 ?_|refine zg2 ?_|refine zg5 ?_|refine zp4 ?_|refine zp5 ?_|refine zc8 ?_|refine zp1 ?_|refine zp2 ?_|refine zm9 fun _ => ?_|refine zm2 fun _ => ?_|refine zm1 fun _ _ => ?_|refine za1 fun _ _ => ?_|refine za2 fun _ _ => ?_|refine zm4 ?_|refine zm5 ?_|refine zm6 ?_|refine zm7 fun _ => ?_|refine zm8 fun _ => ?_|refine zm3 fun _ => ?_|refine zcS ?_|refine zcT ?_|refine zp7 ?_|refine zp8 ?_|refine zq7 ?_|refine zq8 ?_|refine zc5 (fun _ => ?_) fun _ => ?_|refine zp3 (fun _ => ?_) fun _ => ?_|refine zp6 (fun _ => ?_) fun _ => ?_|refine zc6 (fun _ => ?_) fun _ => ?_))
        refine CW_seq ?_
        (repeat' (first|refine zg1 ?_|refine WL_nil ?_|refine WQ_end ?_|refine zc7 ?_|refine CW_region ?_|refine zc1 ?_|refine zc2 ?_|refine zc3 ?_|refine zc4 ?_|refine CW_skip ?_|refine CW_ret ?_|refine CW_exit ?_|refine CW_block ?_|refine EX_seq ?_|refine EX_seq_ret ?_|refine EX_blk ?_|refine EX_blk_ret ?_|refine EX_loop_ret ?_|refine zx1 ?_|refine zx2 ?_|refine EX_seq_exit ?_|refine EX_loop_exit ?_|refine EX_mid_ret ?_|refine EX_mid_exit ?_|refine zr1 fun w hw => ?_|refine zr2 fun w hw => ?_|refine zr0 fun w hw => ?_|refine zr4 fun w hw => ?_|refine zr3 fun w hw => ?_|refine zg4 ?_|refine zg2 ?_|refine zg5 ?_|refine zp4 ?_|refine zp5 ?_|refine zc8 ?_|refine zp1 ?_|refine zp2 ?_|refine zm9 fun _ => ?_|refine zm2 fun _ => ?_|refine zm1 fun _ _ => ?_|refine za1 fun _ _ => ?_|refine za2 fun _ _ => ?_|refine zm4 ?_|refine zm5 ?_|refine zm6 ?_|refine zm7 fun _ => ?_|refine zm8 fun _ => ?_|refine zm3 fun _ => ?_|refine zcS ?_|refine zcT ?_|refine zp7 ?_|refine zp8 ?_|refine zq7 ?_|refine zq8 ?_|refine zc5 (fun _ => ?_) fun _ => ?_|refine zp3 (fun _ => ?_) fun _ => ?_|refine zp6 (fun _ => ?_) fun _ => ?_|refine zc6 (fun _ => ?_) fun _ => ?_))
        (apply WL_callV; rfl; rfl; rfl; (intro W hW; exact hC W 1 (by omega)))
        (repeat' (first|refine zg1 ?_|refine WL_nil ?_|refine WQ_end ?_|refine zc7 ?_|refine CW_region ?_|refine zc1 ?_|refine zc2 ?_|refine zc3 ?_|refine zc4 ?_|refine CW_skip ?_|refine CW_ret ?_|refine CW_exit ?_|refine CW_block ?_|refine EX_seq ?_|refine EX_seq_ret ?_|refine EX_blk ?_|refine EX_blk_ret ?_|refine EX_loop_ret ?_|refine zx1 ?_|refine zx2 ?_|refine EX_seq_exit ?_|refine EX_loop_exit ?_|refine EX_mid_ret ?_|refine EX_mid_exit ?_|refine zr1 fun w hw => ?_|refine zr2 fun w hw => ?_|refine zr0 fun w hw => ?_|refine zr4 fun w hw => ?_|refine zr3 fun w hw => ?_|refine zg4 ?_|refine zg2 ?_|refine zg5 ?_|refine zp4 ?_|refine zp5 ?_|refine zc8 ?_|refine zp1 ?_|refine zp2 ?_|refine zm9 fun _ => ?_|refine zm2 fun _ => ?_|refine zm1 fun _ _ => ?_|refine za1 fun _ _ => ?_|refine za2 fun _ _ => ?_|refine zm4 ?_|refine zm5 ?_|refine zm6 ?_|refine zm7 fun _ => ?_|refine zm8 fun _ => ?_|refine zm3 fun _ => ?_|refine zcS ?_|refine zcT ?_|refine zp7 ?_|refine zp8 ?_|refine zq7 ?_|refine zq8 ?_|refine zc5 (fun _ => ?_) fun _ => ?_|refine zp3 (fun _ => ?_) fun _ => ?_|refine zp6 (fun _ => ?_) fun _ => ?_|refine zc6 (fun _ => ?_) fun _ => ?_))
        refine EX_loop' (j + 1) ⟨?_, Ent.refl, by omega, by omega, hz⟩
        rw [ht]
        exact (by repeat (first | exact Cov.nil | refine Cov.cons rfl (by first | rfl | (congr 1; omega) | assumption) ?_))
  · have hjl : j = gs.length := by omega
    subst hjl
    have hE : (gs.take gs.length).flatten.length = l.length := by rw [List.take_length, hl]
    rw [List.drop_length] at hz
    rw [hE]
    (repeat' (first|refine zg1 ?_|refine WL_nil ?_|refine WQ_end ?_|refine zc7 ?_|refine CW_region ?_|refine zc1 ?_|refine zc2 ?_|refine zc3 ?_|refine zc4 ?_|refine CW_skip ?_|refine CW_ret ?_|refine CW_exit ?_|refine CW_block ?_|refine EX_seq ?_|refine EX_seq_ret ?_|refine EX_blk ?_|refine EX_blk_ret ?_|refine EX_loop_ret ?_|refine zx1 ?_|refine zx2 ?_|refine EX_seq_exit ?_|refine EX_loop_exit ?_|refine EX_mid_ret ?_|refine EX_mid_exit ?_|refine zr1 fun w hw => ?_|refine zr2 fun w hw => ?_|refine zr0 fun w hw => ?_|refine zr4 fun w hw => ?_|refine zr3 fun w hw => ?_|refine zg4 ?_|refine zg2 ?_|refine zg5 ?_|refine zp4 ?_|refine zp5 ?_|refine zc8 ?_|refine zp1 ?_|refine zp2 ?_|refine zm9 fun _ => ?_|refine zm2 fun _ => ?_|refine zm1 fun _ _ => ?_|refine za1 fun _ _ => ?_|refine za2 fun _ _ => ?_|refine zm4 ?_|refine zm5 ?_|refine zm6 ?_|refine zm7 fun _ => ?_|refine zm8 fun _ => ?_|refine zm3 fun _ => ?_|refine zcS ?_|refine zcT ?_|refine zp7 ?_|refine zp8 ?_|refine zq7 ?_|refine zq8 ?_|refine zc5 (fun _ => ?_) fun _ => ?_|refine zp3 (fun _ => ?_) fun _ => ?_|refine zp6 (fun _ => ?_) fun _ => ?_|refine zc6 (fun _ => ?_) fun _ => ?_))
    exact ⟨by rw [hz]; rfl, hw.below⟩

/-- what whole tells -/
def wholeV : Option Int → Value
  | none => .tuple #[.int .i64 0, .bool false]
  | some v => .tuple #[.int .i64 v, .bool true]
set_option maxHeartbeats 2000000 in
set_option maxRecDepth 100000 in
theorem ref_whole (s : List UInt8) (i : Nat) (ds : List UInt8) (neg : Bool) (hi : i + ds.length ≤ s.length) (hs : s.length ≤ 1099511627776) (hds : ∀ k, k < ds.length → s.getD (i + k) 0 = ds.getD k 0) (hd : ∀ d ∈ ds, isDigitB d = true) (j : Int) (hj : j = (i : Int) + ds.length) (w : World) :
    Calls Tryz.prog 34 #[.string ⟨s.toArray⟩, .int .i64 (i : Int), .int .i64 j, .bool neg] w fun e w' => e = .returned (wholeV (wholeF neg ds)) ∧ Below w.heap.size w w' := by
  subst hj
  refine enter (args := [_, _, _, _]) (m := []) (F := []) Tryz.func34 rfl Tryz.ntmps34 (by simp) rfl ?_
  (repeat' (first|refine zg1 ?_|refine WL_nil ?_|refine WQ_end ?_|refine zc7 ?_|refine CW_region ?_|refine zc1 ?_|refine zc2 ?_|refine zc3 ?_|refine zc4 ?_|refine CW_skip ?_|refine CW_ret ?_|refine CW_exit ?_|refine CW_block ?_|refine EX_seq ?_|refine EX_seq_ret ?_|refine EX_blk ?_|refine EX_blk_ret ?_|refine EX_loop_ret ?_|refine zx1 ?_|refine zx2 ?_|refine EX_seq_exit ?_|refine EX_loop_exit ?_|refine EX_mid_ret ?_|refine EX_mid_exit ?_|refine zr1 fun w hw => ?_|refine zr2 fun w hw => ?_|refine zr0 fun w hw => ?_|refine zr4 fun w hw => ?_|refine zr3 fun w hw => ?_|refine zg4 ?_|refine zg2 ?_|refine zg5 ?_|refine zp4 ?_|refine zp5 ?_|refine zc8 ?_|refine zp1 ?_|refine zp2 ?_|refine zm9 fun _ => ?_|refine zm2 fun _ => ?_|refine zm1 fun _ _ => ?_|refine za1 fun _ _ => ?_|refine za2 fun _ _ => ?_|refine zm4 ?_|refine zm5 ?_|refine zm6 ?_|refine zm7 fun _ => ?_|refine zm8 fun _ => ?_|refine zm3 fun _ => ?_|refine zcS ?_|refine zcT ?_|refine zp7 ?_|refine zp8 ?_|refine zq7 ?_|refine zq8 ?_|refine zc5 (fun _ => ?_) fun _ => ?_|refine zp3 (fun _ => ?_) fun _ => ?_|refine zp6 (fun _ => ?_) fun _ => ?_|refine zc6 (fun _ => ?_) fun _ => ?_))
  refine CW_loopP [(0,_),(1,_),(2,_),(3,_)] (by repeat (first | exact Cov.nil | refine Cov.cons rfl (by first | rfl | (congr 1; omega) | assumption) ?_)) (fun x : Nat × Int => [(11, .int .i64 ((i : Int) + x.1)), (10, .int .i64 x.2)]) (fun x => x.1 ≤ ds.length ∧ (-9223372036854775808 ≤ x.2 ∧ x.2 ≤ 0) ∧ wholeG 0 ds = wholeG x.2 (ds.drop x.1)) (fun x => ds.length - x.1) (0, 0) ⟨Nat.zero_le _, by omega, rfl⟩ (by repeat (first | exact Cov.nil | refine Cov.cons rfl (by first | rfl | (congr 1; omega) | assumption) ?_)) ?_
  rintro ⟨k, n⟩ ⟨hk, hn, hz⟩
  dsimp only at hk hn hz ⊢
  by_cases hlt : k < ds.length
  · have hg := get_some hlt 0
    have hdk := hd _ (List.mem_of_getElem? hg)
    have hsk := hds k hlt
    unfold isDigitB at hdk
    simp at hdk
    have h48 : 48 ≤ (ds.getD k 0).toNat ∧ (ds.getD k 0).toNat ≤ 57 := by simpa [List.getD_eq_getElem?_getD] using hdk
    rw [drop_cons hg, wholeG] at hz
    have hix : (i : Int) + (k : Int) = ((i + k : Nat) : Int) := by omega
    rw [hix]
    have e1 := tdiv_low (((ds.getD k 0).toNat : Int) - 48) (by omega)
    rw [← hsk] at hz h48 e1
    by_cases hov : n < Int.tdiv (-9223372036854775808 + (((s.getD (i + k) 0).toNat : Int) - 48)) 10
    · rw [if_pos hov] at hz
      (repeat' (first|refine zg1 ?_|refine WL_nil ?_|refine WQ_end ?_|refine zc7 ?_|refine CW_region ?_|refine zc1 ?_|refine zc2 ?_|refine zc3 ?_|refine zc4 ?_|refine CW_skip ?_|refine CW_ret ?_|refine CW_exit ?_|refine CW_block ?_|refine EX_seq ?_|refine EX_seq_ret ?_|refine EX_blk ?_|refine EX_blk_ret ?_|refine EX_loop_ret ?_|refine zx1 ?_|refine zx2 ?_|refine EX_seq_exit ?_|refine EX_loop_exit ?_|refine EX_mid_ret ?_|refine EX_mid_exit ?_|refine zr1 fun w hw => ?_|refine zr2 fun w hw => ?_|refine zr0 fun w hw => ?_|refine zr4 fun w hw => ?_|refine zr3 fun w hw => ?_|refine zg4 ?_|refine zg2 ?_|refine zg5 ?_|refine zp4 ?_|refine zp5 ?_|refine zc8 ?_|refine zp1 ?_|refine zp2 ?_|refine zm9 fun _ => ?_|refine zm2 fun _ => ?_|refine zm1 fun _ _ => ?_|refine za1 fun _ _ => ?_|refine za2 fun _ _ => ?_|refine zm4 ?_|refine zm5 ?_|refine zm6 ?_|refine zm7 fun _ => ?_|refine zm8 fun _ => ?_|refine zm3 fun _ => ?_|refine zcS ?_|refine zcT ?_|refine zp7 ?_|refine zp8 ?_|refine zq7 ?_|refine zq8 ?_|refine zc5 (fun _ => ?_) fun _ => ?_|refine zp3 (fun _ => ?_) fun _ => ?_|refine zp6 (fun _ => ?_) fun _ => ?_|refine zc6 (fun _ => ?_) fun _ => ?_))
      apply WL_op rfl rfl (y_quoT rfl rfl (by omega) (by rw [e1]; omega))
      (repeat' (first|refine zg1 ?_|refine WL_nil ?_|refine WQ_end ?_|refine zc7 ?_|refine CW_region ?_|refine zc1 ?_|refine zc2 ?_|refine zc3 ?_|refine zc4 ?_|refine CW_skip ?_|refine CW_ret ?_|refine CW_exit ?_|refine CW_block ?_|refine EX_seq ?_|refine EX_seq_ret ?_|refine EX_blk ?_|refine EX_blk_ret ?_|refine EX_loop_ret ?_|refine zx1 ?_|refine zx2 ?_|refine EX_seq_exit ?_|refine EX_loop_exit ?_|refine EX_mid_ret ?_|refine EX_mid_exit ?_|refine zr1 fun w hw => ?_|refine zr2 fun w hw => ?_|refine zr0 fun w hw => ?_|refine zr4 fun w hw => ?_|refine zr3 fun w hw => ?_|refine zg4 ?_|refine zg2 ?_|refine zg5 ?_|refine zp4 ?_|refine zp5 ?_|refine zc8 ?_|refine zp1 ?_|refine zp2 ?_|refine zm9 fun _ => ?_|refine zm2 fun _ => ?_|refine zm1 fun _ _ => ?_|refine za1 fun _ _ => ?_|refine za2 fun _ _ => ?_|refine zm4 ?_|refine zm5 ?_|refine zm6 ?_|refine zm7 fun _ => ?_|refine zm8 fun _ => ?_|refine zm3 fun _ => ?_|refine zcS ?_|refine zcT ?_|refine zp7 ?_|refine zp8 ?_|refine zq7 ?_|refine zq8 ?_|refine zc5 (fun _ => ?_) fun _ => ?_|refine zp3 (fun _ => ?_) fun _ => ?_|refine zp6 (fun _ => ?_) fun _ => ?_|refine zc6 (fun _ => ?_) fun _ => ?_))
      exact ⟨by unfold wholeF; rw [hz]; rfl, hw.below⟩
    · rw [if_neg hov] at hz
      have hov' := hov
      rw [e1] at hov'
      have hI1 : I64 (n * 10) := by unfold I64; omega
      (repeat' (first|refine zg1 ?_|refine WL_nil ?_|refine WQ_end ?_|refine zc7 ?_|refine CW_region ?_|refine zc1 ?_|refine zc2 ?_|refine zc3 ?_|refine zc4 ?_|refine CW_skip ?_|refine CW_ret ?_|refine CW_exit ?_|refine CW_block ?_|refine EX_seq ?_|refine EX_seq_ret ?_|refine EX_blk ?_|refine EX_blk_ret ?_|refine EX_loop_ret ?_|refine zx1 ?_|refine zx2 ?_|refine EX_seq_exit ?_|refine EX_loop_exit ?_|refine EX_mid_ret ?_|refine EX_mid_exit ?_|refine zr1 fun w hw => ?_|refine zr2 fun w hw => ?_|refine zr0 fun w hw => ?_|refine zr4 fun w hw => ?_|refine zr3 fun w hw => ?_|refine zg4 ?_|refine zg2 ?_|refine zg5 ?_|refine zp4 ?_|refine zp5 ?_|refine zc8 ?_|refine zp1 ?_|refine zp2 ?_|refine zm9 fun _ => ?_|refine zm2 fun _ => ?_|refine zm1 fun _ _ => ?_|refine za1 fun _ _ => ?_|refine za2 fun _ _ => ?_|refine zm4 ?_|refine zm5 ?_|refine zm6 ?_|refine zm7 fun _ => ?_|refine zm8 fun _ => ?_|refine zm3 fun _ => ?_|refine zcS ?_|refine zcT ?_|refine zp7 ?_|refine zp8 ?_|refine zq7 ?_|refine zq8 ?_|refine zc5 (fun _ => ?_) fun _ => ?_|refine zp3 (fun _ => ?_) fun _ => ?_|refine zp6 (fun _ => ?_) fun _ => ?_|refine zc6 (fun _ => ?_) fun _ => ?_))
      apply WL_op rfl rfl (y_quoT rfl rfl (by omega) (by rw [e1]; omega))
      (repeat' (first|refine zg1 ?_|refine WL_nil ?_|refine WQ_end ?_|refine zc7 ?_|refine CW_region ?_|refine zc1 ?_|refine zc2 ?_|refine zc3 ?_|refine zc4 ?_|refine CW_skip ?_|refine CW_ret ?_|refine CW_exit ?_|refine CW_block ?_|refine EX_seq ?_|refine EX_seq_ret ?_|refine EX_blk ?_|refine EX_blk_ret ?_|refine EX_loop_ret ?_|refine zx1 ?_|refine zx2 ?_|refine EX_seq_exit ?_|refine EX_loop_exit ?_|refine EX_mid_ret ?_|refine EX_mid_exit ?_|refine zr1 fun w hw => ?_|refine zr2 fun w hw => ?_|refine zr0 fun w hw => ?_|refine zr4 fun w hw => ?_|refine zr3 fun w hw => ?_|refine zg4 ?_|refine zg2 ?_|refine zg5 ?_|refine zp4 ?_|refine zp5 ?_|refine zc8 ?_|refine zp1 ?_|refine zp2 ?_|refine zm9 fun _ => ?_|refine zm2 fun _ => ?_|refine zm1 fun _ _ => ?_|refine za1 fun _ _ => ?_|refine za2 fun _ _ => ?_|refine zm4 ?_|refine zm5 ?_|refine zm6 ?_|refine zm7 fun _ => ?_|refine zm8 fun _ => ?_|refine zm3 fun _ => ?_|refine zcS ?_|refine zcT ?_|refine zp7 ?_|refine zp8 ?_|refine zq7 ?_|refine zq8 ?_|refine zc5 (fun _ => ?_) fun _ => ?_|refine zp3 (fun _ => ?_) fun _ => ?_|refine zp6 (fun _ => ?_) fun _ => ?_|refine zc6 (fun _ => ?_) fun _ => ?_))
      refine EX_loop' (k + 1, n * 10 - (((s.getD (i + k) 0).toNat : Int) - 48)) ⟨?_, Ent.refl, by dsimp only; omega, by dsimp only; omega, by dsimp only; omega, hz⟩
      exact (by repeat (first | exact Cov.nil | refine Cov.cons rfl (by first | rfl | (congr 1; omega) | assumption) ?_))
  · have hkl : k = ds.length := by omega
    subst hkl
    rw [List.drop_length, wholeG] at hz
    cases neg with
    | true =>
      (repeat' (first|refine zg1 ?_|refine WL_nil ?_|refine WQ_end ?_|refine zc7 ?_|refine CW_region ?_|refine zc1 ?_|refine zc2 ?_|refine zc3 ?_|refine zc4 ?_|refine CW_skip ?_|refine CW_ret ?_|refine CW_exit ?_|refine CW_block ?_|refine EX_seq ?_|refine EX_seq_ret ?_|refine EX_blk ?_|refine EX_blk_ret ?_|refine EX_loop_ret ?_|refine zx1 ?_|refine zx2 ?_|refine EX_seq_exit ?_|refine EX_loop_exit ?_|refine EX_mid_ret ?_|refine EX_mid_exit ?_|refine zr1 fun w hw => ?_|refine zr2 fun w hw => ?_|refine zr0 fun w hw => ?_|refine zr4 fun w hw => ?_|refine zr3 fun w hw => ?_|refine zg4 ?_|refine zg2 ?_|refine zg5 ?_|refine zp4 ?_|refine zp5 ?_|refine zc8 ?_|refine zp1 ?_|refine zp2 ?_|refine zm9 fun _ => ?_|refine zm2 fun _ => ?_|refine zm1 fun _ _ => ?_|refine za1 fun _ _ => ?_|refine za2 fun _ _ => ?_|refine zm4 ?_|refine zm5 ?_|refine zm6 ?_|refine zm7 fun _ => ?_|refine zm8 fun _ => ?_|refine zm3 fun _ => ?_|refine zcS ?_|refine zcT ?_|refine zp7 ?_|refine zp8 ?_|refine zq7 ?_|refine zq8 ?_|refine zc5 (fun _ => ?_) fun _ => ?_|refine zp3 (fun _ => ?_) fun _ => ?_|refine zp6 (fun _ => ?_) fun _ => ?_|refine zc6 (fun _ => ?_) fun _ => ?_))
      exact ⟨by unfold wholeF; rw [hz]; rfl, hw.below⟩
    | false =>
      by_cases hmin : n = -9223372036854775808
      · (repeat' (first|refine zg1 ?_|refine WL_nil ?_|refine WQ_end ?_|refine zc7 ?_|refine CW_region ?_|refine zc1 ?_|refine zc2 ?_|refine zc3 ?_|refine zc4 ?_|refine CW_skip ?_|refine CW_ret ?_|refine CW_exit ?_|refine CW_block ?_|refine EX_seq ?_|refine EX_seq_ret ?_|refine EX_blk ?_|refine EX_blk_ret ?_|refine EX_loop_ret ?_|refine zx1 ?_|refine zx2 ?_|refine EX_seq_exit ?_|refine EX_loop_exit ?_|refine EX_mid_ret ?_|refine EX_mid_exit ?_|refine zr1 fun w hw => ?_|refine zr2 fun w hw => ?_|refine zr0 fun w hw => ?_|refine zr4 fun w hw => ?_|refine zr3 fun w hw => ?_|refine zg4 ?_|refine zg2 ?_|refine zg5 ?_|refine zp4 ?_|refine zp5 ?_|refine zc8 ?_|refine zp1 ?_|refine zp2 ?_|refine zm9 fun _ => ?_|refine zm2 fun _ => ?_|refine zm1 fun _ _ => ?_|refine za1 fun _ _ => ?_|refine za2 fun _ _ => ?_|refine zm4 ?_|refine zm5 ?_|refine zm6 ?_|refine zm7 fun _ => ?_|refine zm8 fun _ => ?_|refine zm3 fun _ => ?_|refine zcS ?_|refine zcT ?_|refine zp7 ?_|refine zp8 ?_|refine zq7 ?_|refine zq8 ?_|refine zc5 (fun _ => ?_) fun _ => ?_|refine zp3 (fun _ => ?_) fun _ => ?_|refine zp6 (fun _ => ?_) fun _ => ?_|refine zc6 (fun _ => ?_) fun _ => ?_))
        exact ⟨by unfold wholeF; rw [hz]; simp [hmin, wholeV], hw.below⟩
      · (repeat' (first|refine zg1 ?_|refine WL_nil ?_|refine WQ_end ?_|refine zc7 ?_|refine CW_region ?_|refine zc1 ?_|refine zc2 ?_|refine zc3 ?_|refine zc4 ?_|refine CW_skip ?_|refine CW_ret ?_|refine CW_exit ?_|refine CW_block ?_|refine EX_seq ?_|refine EX_seq_ret ?_|refine EX_blk ?_|refine EX_blk_ret ?_|refine EX_loop_ret ?_|refine zx1 ?_|refine zx2 ?_|refine EX_seq_exit ?_|refine EX_loop_exit ?_|refine EX_mid_ret ?_|refine EX_mid_exit ?_|refine zr1 fun w hw => ?_|refine zr2 fun w hw => ?_|refine zr0 fun w hw => ?_|refine zr4 fun w hw => ?_|refine zr3 fun w hw => ?_|refine zg4 ?_|refine zg2 ?_|refine zg5 ?_|refine zp4 ?_|refine zp5 ?_|refine zc8 ?_|refine zp1 ?_|refine zp2 ?_|refine zm9 fun _ => ?_|refine zm2 fun _ => ?_|refine zm1 fun _ _ => ?_|refine za1 fun _ _ => ?_|refine za2 fun _ _ => ?_|refine zm4 ?_|refine zm5 ?_|refine zm6 ?_|refine zm7 fun _ => ?_|refine zm8 fun _ => ?_|refine zm3 fun _ => ?_|refine zcS ?_|refine zcT ?_|refine zp7 ?_|refine zp8 ?_|refine zq7 ?_|refine zq8 ?_|refine zc5 (fun _ => ?_) fun _ => ?_|refine zp3 (fun _ => ?_) fun _ => ?_|refine zp6 (fun _ => ?_) fun _ => ?_|refine zc6 (fun _ => ?_) fun _ => ?_))
        exact ⟨by unfold wholeF; rw [hz]; simp [hmin, wholeV], hw.below⟩
end Go.Proofs.YtnnidacekljihaaGreatDoor

namespace Go.Proofs.YtnnidacekljihaaGreatDoor
open Go.RowKit

/-- what a word's reading tells -/
def wordV (a : Nat) (r : Int × Tok × Nat) : Value :=
  if r.1 = 0 then .tuple #[.agg (tokE { r.2.1 with at_ := (a : Int) }).toArray, .int .i64 ((a + r.2.2 : Nat) : Int), .int .i64 0] else .tuple #[.agg (tokE ⟨0, 0, 0, [], 0⟩).toArray, .int .i64 0, .int .i64 r.1]
def quotedF (l : List UInt8) : Int × Tok × Nat := match qscan l with
    | none => (1, default, 0)
    | some (t, n) => if quotF t = true then (0, ⟨2, 0, 0, t, 0⟩, n + 1) else (1, default, 0)
theorem qscan_cons {b : UInt8} {r : List UInt8} (h : ¬ b = 39) : qscan (b :: r) = (qscan r).map fun x => (b :: x.1, x.2 + 1) := by rw [qscan.eq_def]; simp [h]
theorem qscan_two {r : List UInt8} : qscan (39 :: 39 :: r) = (qscan r).map fun x => (39 :: x.1, x.2 + 2) := by rw [qscan.eq_def]; simp
theorem qscan_end {c : UInt8} {r : List UInt8} (h : ¬ c = 39) : qscan (39 :: c :: r) = some ([], 1) := by rw [qscan.eq_def]; simp [h]
theorem qscan_end0 : qscan [39] = some ([], 1) := by rw [qscan.eq_def]; simp

set_option maxHeartbeats 2000000 in
set_option maxRecDepth 100000 in
theorem ref_quoted (s : List UInt8) (a : Nat) (ha : a < s.length) (hs : s.length ≤ 4294967280) (w : World) :
    Calls Tryz.prog 37 #[.string ⟨s.toArray⟩, .int .i64 (a : Int)] w fun e w' => e = .returned (wordV a (quotedF (s.drop (a + 1)))) ∧ Below w.heap.size w w' := by
  refine enter (args := [_, _]) (m := []) (F := []) Tryz.func37 rfl Tryz.ntmps37 (by simp) rfl ?_
  (repeat' (first|refine zg1 ?_|refine WL_nil ?_|refine WQ_end ?_|refine zc7 ?_|refine CW_region ?_|refine zc1 ?_|refine zc2 ?_|refine zc3 ?_|refine zc4 ?_|refine CW_skip ?_|refine CW_ret ?_|refine CW_exit ?_|refine CW_block ?_|refine EX_seq ?_|refine EX_seq_ret ?_|refine EX_blk ?_|refine EX_blk_ret ?_|refine EX_loop_ret ?_|refine zx1 ?_|refine zx2 ?_|refine EX_seq_exit ?_|refine EX_loop_exit ?_|refine EX_mid_ret ?_|refine EX_mid_exit ?_|refine zr1 fun w hw => ?_|refine zr2 fun w hw => ?_|refine zr0 fun w hw => ?_|refine zr4 fun w hw => ?_|refine zr3 fun w hw => ?_|refine zg4 ?_|refine zg2 ?_|refine zg5 ?_|refine zp4 ?_|refine zp5 ?_|refine zc8 ?_|refine zp1 ?_|refine zp2 ?_|refine zm9 fun _ => ?_|refine zm2 fun _ => ?_|refine zm1 fun _ _ => ?_|refine za1 fun _ _ => ?_|refine za2 fun _ _ => ?_|refine zm4 ?_|refine zm5 ?_|refine zm6 ?_|refine zm7 fun _ => ?_|refine zm8 fun _ => ?_|refine zm3 fun _ => ?_|refine zcS ?_|refine zcT ?_|refine zp7 ?_|refine zp8 ?_|refine zq7 ?_|refine zq8 ?_|refine zc5 (fun _ => ?_) fun _ => ?_|refine zp3 (fun _ => ?_) fun _ => ?_|refine zp6 (fun _ => ?_) fun _ => ?_|refine zc6 (fun _ => ?_) fun _ => ?_))
  rename_i b1
  refine CW_loopP [(0,_),(1,_),(4,_)] (by repeat (first | exact Cov.nil | refine Cov.cons rfl (by first | rfl | (congr 1; omega) | assumption) ?_)) (fun x : Nat × List UInt8 => [(8, .int .i64 (x.1 : Nat)), (7, .string ⟨x.2.toArray⟩)]) (fun x => x.1 ≤ s.length ∧ a + 1 ≤ x.1 ∧ x.2.length ≤ x.1 ∧ qscan (s.drop (a + 1)) = (qscan (s.drop x.1)).map fun z => (x.2 ++ z.1, (x.1 - (a + 1)) + z.2)) (fun x => s.length - x.1) (a + 1, []) ⟨by dsimp only; omega, by dsimp only; omega, by simp, by simp⟩ (by repeat (first | exact Cov.nil | refine Cov.cons rfl (by first | rfl | (congr 1; dsimp only; omega) | assumption) ?_)) ?_
  rintro ⟨j, acc⟩ ⟨hj, haj, hacc, hz⟩
  dsimp only at hj haj hacc hz ⊢
  by_cases hlt : j < s.length
  · have hd := drop_cons (get_some hlt 0)
    have e1 := one_part hlt
    by_cases h39 : s.getD j 0 = 39
    · have h39n : (s.getD j 0).toNat = 39 := by rw [h39]; rfl
      by_cases hl2 : j + 1 < s.length
      · have hd2 := drop_cons (get_some hl2 0)
        by_cases h2 : s.getD (j + 1) 0 = 39
        · have h2n : (s.getD (j + 1) 0).toNat = 39 := by rw [h2]; rfl
          rw [hd, hd2, h39, h2, qscan_two, Option.map_map] at hz
          (repeat' (first|refine zg1 ?_|refine WL_nil ?_|refine WQ_end ?_|refine zc7 ?_|refine CW_region ?_|refine zc1 ?_|refine zc2 ?_|refine zc3 ?_|refine zc4 ?_|refine CW_skip ?_|refine CW_ret ?_|refine CW_exit ?_|refine CW_block ?_|refine EX_seq ?_|refine EX_seq_ret ?_|refine EX_blk ?_|refine EX_blk_ret ?_|refine EX_loop_ret ?_|refine zx1 ?_|refine zx2 ?_|refine EX_seq_exit ?_|refine EX_loop_exit ?_|refine EX_mid_ret ?_|refine EX_mid_exit ?_|refine zr1 fun w hw => ?_|refine zr2 fun w hw => ?_|refine zr0 fun w hw => ?_|refine zr4 fun w hw => ?_|refine zr3 fun w hw => ?_|refine zg4 ?_|refine zg2 ?_|refine zg5 ?_|refine zp4 ?_|refine zp5 ?_|refine zc8 ?_|refine zp1 ?_|refine zp2 ?_|refine zm9 fun _ => ?_|refine zm2 fun _ => ?_|refine zm1 fun _ _ => ?_|refine za1 fun _ _ => ?_|refine za2 fun _ _ => ?_|refine zm4 ?_|refine zm5 ?_|refine zm6 ?_|refine zm7 fun _ => ?_|refine zm8 fun _ => ?_|refine zm3 fun _ => ?_|refine zcS ?_|refine zcT ?_|refine zp7 ?_|refine zp8 ?_|refine zq7 ?_|refine zq8 ?_|refine zc5 (fun _ => ?_) fun _ => ?_|refine zp3 (fun _ => ?_) fun _ => ?_|refine zp6 (fun _ => ?_) fun _ => ?_|refine zc6 (fun _ => ?_) fun _ => ?_))
          try any_goals (rename_i hx; first | exact absurd (congrArg (fun n : Nat => (n : Int)) h2n) hx | exact absurd (Int.ofNat_inj.1 hx) h2n)
          refine EX_loop' (j + 2, acc ++ [39]) ⟨(by repeat (first | exact Cov.nil | refine Cov.cons rfl (by first | rfl | (congr 1; omega) | assumption) ?_)), Ent.refl, by dsimp only; omega, by dsimp only; omega, by dsimp only; omega, by simp; omega, ?_⟩
          dsimp only
          rw [hz]
          congr 1
          funext z
          simp; omega
        · have h2n : ¬ (s.getD (j + 1) 0).toNat = 39 := fun h => h2 (UInt8.toNat_inj.1 h)
          rw [hd, hd2, h39, qscan_end h2] at hz
          have hq' : quotedF (s.drop (a + 1)) = if quotF acc = true then (0, ⟨2, 0, 0, acc, 0⟩, j - (a + 1) + 1 + 1) else (1, default, 0) := by unfold quotedF; rw [hz]; simp
          cases hqt : quotF acc with
          | true =>
            rw [hqt, if_pos rfl] at hq'
            (repeat' (first|refine zg1 ?_|refine WL_nil ?_|refine WQ_end ?_|refine zc7 ?_|refine CW_region ?_|refine zc1 ?_|refine zc2 ?_|refine zc3 ?_|refine zc4 ?_|refine CW_skip ?_|refine CW_ret ?_|refine CW_exit ?_|refine CW_block ?_|refine EX_seq ?_|refine EX_seq_ret ?_|refine EX_blk ?_|refine EX_blk_ret ?_|refine EX_loop_ret ?_|refine zx1 ?_|refine zx2 ?_|refine EX_seq_exit ?_|refine EX_loop_exit ?_|refine EX_mid_ret ?_|refine EX_mid_exit ?_|refine zr1 fun w hw => ?_|refine zr2 fun w hw => ?_|refine zr0 fun w hw => ?_|refine zr4 fun w hw => ?_|refine zr3 fun w hw => ?_|refine zg4 ?_|refine zg2 ?_|refine zg5 ?_|refine zp4 ?_|refine zp5 ?_|refine zc8 ?_|refine zp1 ?_|refine zp2 ?_|refine zm9 fun _ => ?_|refine zm2 fun _ => ?_|refine zm1 fun _ _ => ?_|refine za1 fun _ _ => ?_|refine za2 fun _ _ => ?_|refine zm4 ?_|refine zm5 ?_|refine zm6 ?_|refine zm7 fun _ => ?_|refine zm8 fun _ => ?_|refine zm3 fun _ => ?_|refine zcS ?_|refine zcT ?_|refine zp7 ?_|refine zp8 ?_|refine zq7 ?_|refine zq8 ?_|refine zc5 (fun _ => ?_) fun _ => ?_|refine zp3 (fun _ => ?_) fun _ => ?_|refine zp6 (fun _ => ?_) fun _ => ?_|refine zc6 (fun _ => ?_) fun _ => ?_))
            try any_goals (rename_i hx; first | exact absurd (congrArg (fun n : Nat => (n : Int)) h2n) hx | exact absurd (Int.ofNat_inj.1 hx) h2n)
            (apply WL_callV; rfl; rfl; rfl; (intro W hW; exact ref_Quotable acc (by omega) W))
            rw [hqt]
            (repeat' (first|refine zg1 ?_|refine WL_nil ?_|refine WQ_end ?_|refine zc7 ?_|refine CW_region ?_|refine zc1 ?_|refine zc2 ?_|refine zc3 ?_|refine zc4 ?_|refine CW_skip ?_|refine CW_ret ?_|refine CW_exit ?_|refine CW_block ?_|refine EX_seq ?_|refine EX_seq_ret ?_|refine EX_blk ?_|refine EX_blk_ret ?_|refine EX_loop_ret ?_|refine zx1 ?_|refine zx2 ?_|refine EX_seq_exit ?_|refine EX_loop_exit ?_|refine EX_mid_ret ?_|refine EX_mid_exit ?_|refine zr1 fun w hw => ?_|refine zr2 fun w hw => ?_|refine zr0 fun w hw => ?_|refine zr4 fun w hw => ?_|refine zr3 fun w hw => ?_|refine zg4 ?_|refine zg2 ?_|refine zg5 ?_|refine zp4 ?_|refine zp5 ?_|refine zc8 ?_|refine zp1 ?_|refine zp2 ?_|refine zm9 fun _ => ?_|refine zm2 fun _ => ?_|refine zm1 fun _ _ => ?_|refine za1 fun _ _ => ?_|refine za2 fun _ _ => ?_|refine zm4 ?_|refine zm5 ?_|refine zm6 ?_|refine zm7 fun _ => ?_|refine zm8 fun _ => ?_|refine zm3 fun _ => ?_|refine zcS ?_|refine zcT ?_|refine zp7 ?_|refine zp8 ?_|refine zq7 ?_|refine zq8 ?_|refine zc5 (fun _ => ?_) fun _ => ?_|refine zp3 (fun _ => ?_) fun _ => ?_|refine zp6 (fun _ => ?_) fun _ => ?_|refine zc6 (fun _ => ?_) fun _ => ?_))
            refine EX_retC3 rfl rfl rfl rfl rfl (by first | exact .here | exact .there .here | exact .there (.there .here) | exact .there (.there (.there .here)) | exact .there (.there (.there (.there .here))) | exact .there (.there (.there (.there (.there .here)))) | exact .there (.there (.there (.there (.there (.there .here)))))) rfl fun w hw => ?_
            refine ⟨?_, hw.below⟩
            rw [hq', show j - (a + 1) + 1 + 1 = j - a + 1 by omega]
            unfold wordV
            rw [if_pos rfl, show ((a + (j - a + 1) : Nat) : Int) = (j : Int) + 1 by omega]
            rfl
          | false =>
            rw [hqt, if_neg (by simp)] at hq'
            (repeat' (first|refine zg1 ?_|refine WL_nil ?_|refine WQ_end ?_|refine zc7 ?_|refine CW_region ?_|refine zc1 ?_|refine zc2 ?_|refine zc3 ?_|refine zc4 ?_|refine CW_skip ?_|refine CW_ret ?_|refine CW_exit ?_|refine CW_block ?_|refine EX_seq ?_|refine EX_seq_ret ?_|refine EX_blk ?_|refine EX_blk_ret ?_|refine EX_loop_ret ?_|refine zx1 ?_|refine zx2 ?_|refine EX_seq_exit ?_|refine EX_loop_exit ?_|refine EX_mid_ret ?_|refine EX_mid_exit ?_|refine zr1 fun w hw => ?_|refine zr2 fun w hw => ?_|refine zr0 fun w hw => ?_|refine zr4 fun w hw => ?_|refine zr3 fun w hw => ?_|refine zg4 ?_|refine zg2 ?_|refine zg5 ?_|refine zp4 ?_|refine zp5 ?_|refine zc8 ?_|refine zp1 ?_|refine zp2 ?_|refine zm9 fun _ => ?_|refine zm2 fun _ => ?_|refine zm1 fun _ _ => ?_|refine za1 fun _ _ => ?_|refine za2 fun _ _ => ?_|refine zm4 ?_|refine zm5 ?_|refine zm6 ?_|refine zm7 fun _ => ?_|refine zm8 fun _ => ?_|refine zm3 fun _ => ?_|refine zcS ?_|refine zcT ?_|refine zp7 ?_|refine zp8 ?_|refine zq7 ?_|refine zq8 ?_|refine zc5 (fun _ => ?_) fun _ => ?_|refine zp3 (fun _ => ?_) fun _ => ?_|refine zp6 (fun _ => ?_) fun _ => ?_|refine zc6 (fun _ => ?_) fun _ => ?_))
            try any_goals (rename_i hx; first | exact absurd (congrArg (fun n : Nat => (n : Int)) h2n) hx | exact absurd (Int.ofNat_inj.1 hx) h2n)
            (apply WL_callV; rfl; rfl; rfl; (intro W hW; exact ref_Quotable acc (by omega) W))
            rw [hqt]
            (repeat' (first|refine zg1 ?_|refine WL_nil ?_|refine WQ_end ?_|refine zc7 ?_|refine CW_region ?_|refine zc1 ?_|refine zc2 ?_|refine zc3 ?_|refine zc4 ?_|refine CW_skip ?_|refine CW_ret ?_|refine CW_exit ?_|refine CW_block ?_|refine EX_seq ?_|refine EX_seq_ret ?_|refine EX_blk ?_|refine EX_blk_ret ?_|refine EX_loop_ret ?_|refine zx1 ?_|refine zx2 ?_|refine EX_seq_exit ?_|refine EX_loop_exit ?_|refine EX_mid_ret ?_|refine EX_mid_exit ?_|refine zr1 fun w hw => ?_|refine zr2 fun w hw => ?_|refine zr0 fun w hw => ?_|refine zr4 fun w hw => ?_|refine zr3 fun w hw => ?_|refine zg4 ?_|refine zg2 ?_|refine zg5 ?_|refine zp4 ?_|refine zp5 ?_|refine zc8 ?_|refine zp1 ?_|refine zp2 ?_|refine zm9 fun _ => ?_|refine zm2 fun _ => ?_|refine zm1 fun _ _ => ?_|refine za1 fun _ _ => ?_|refine za2 fun _ _ => ?_|refine zm4 ?_|refine zm5 ?_|refine zm6 ?_|refine zm7 fun _ => ?_|refine zm8 fun _ => ?_|refine zm3 fun _ => ?_|refine zcS ?_|refine zcT ?_|refine zp7 ?_|refine zp8 ?_|refine zq7 ?_|refine zq8 ?_|refine zc5 (fun _ => ?_) fun _ => ?_|refine zp3 (fun _ => ?_) fun _ => ?_|refine zp6 (fun _ => ?_) fun _ => ?_|refine zc6 (fun _ => ?_) fun _ => ?_))
            refine EX_retC3 rfl rfl rfl rfl rfl (by first | exact .here | exact .there .here | exact .there (.there .here) | exact .there (.there (.there .here)) | exact .there (.there (.there (.there .here))) | exact .there (.there (.there (.there (.there .here)))) | exact .there (.there (.there (.there (.there (.there .here)))))) rfl fun w hw => ?_
            exact ⟨by rw [hq']; rfl, hw.below⟩
      · have hjl : j + 1 = s.length := by omega
        have hd2 : s.drop (j + 1) = [] := by rw [hjl, List.drop_length]
        rw [hd, hd2, h39, qscan_end0] at hz
        have hq' : quotedF (s.drop (a + 1)) = if quotF acc = true then (0, ⟨2, 0, 0, acc, 0⟩, j - (a + 1) + 1 + 1) else (1, default, 0) := by unfold quotedF; rw [hz]; simp
        cases hqt : quotF acc with
        | true =>
          rw [hqt, if_pos rfl] at hq'
          (repeat' (first|refine zg1 ?_|refine WL_nil ?_|refine WQ_end ?_|refine zc7 ?_|refine CW_region ?_|refine zc1 ?_|refine zc2 ?_|refine zc3 ?_|refine zc4 ?_|refine CW_skip ?_|refine CW_ret ?_|refine CW_exit ?_|refine CW_block ?_|refine EX_seq ?_|refine EX_seq_ret ?_|refine EX_blk ?_|refine EX_blk_ret ?_|refine EX_loop_ret ?_|refine zx1 ?_|refine zx2 ?_|refine EX_seq_exit ?_|refine EX_loop_exit ?_|refine EX_mid_ret ?_|refine EX_mid_exit ?_|refine zr1 fun w hw => ?_|refine zr2 fun w hw => ?_|refine zr0 fun w hw => ?_|refine zr4 fun w hw => ?_|refine zr3 fun w hw => ?_|refine zg4 ?_|refine zg2 ?_|refine zg5 ?_|refine zp4 ?_|refine zp5 ?_|refine zc8 ?_|refine zp1 ?_|refine zp2 ?_|refine zm9 fun _ => ?_|refine zm2 fun _ => ?_|refine zm1 fun _ _ => ?_|refine za1 fun _ _ => ?_|refine za2 fun _ _ => ?_|refine zm4 ?_|refine zm5 ?_|refine zm6 ?_|refine zm7 fun _ => ?_|refine zm8 fun _ => ?_|refine zm3 fun _ => ?_|refine zcS ?_|refine zcT ?_|refine zp7 ?_|refine zp8 ?_|refine zq7 ?_|refine zq8 ?_|refine zc5 (fun _ => ?_) fun _ => ?_|refine zp3 (fun _ => ?_) fun _ => ?_|refine zp6 (fun _ => ?_) fun _ => ?_|refine zc6 (fun _ => ?_) fun _ => ?_))
          try any_goals (rename_i hx; first | exact absurd (congrArg (fun n : Nat => (n : Int)) h2n) hx | exact absurd (Int.ofNat_inj.1 hx) h2n)
          (apply WL_callV; rfl; rfl; rfl; (intro W hW; exact ref_Quotable acc (by omega) W))
          rw [hqt]
          (repeat' (first|refine zg1 ?_|refine WL_nil ?_|refine WQ_end ?_|refine zc7 ?_|refine CW_region ?_|refine zc1 ?_|refine zc2 ?_|refine zc3 ?_|refine zc4 ?_|refine CW_skip ?_|refine CW_ret ?_|refine CW_exit ?_|refine CW_block ?_|refine EX_seq ?_|refine EX_seq_ret ?_|refine EX_blk ?_|refine EX_blk_ret ?_|refine EX_loop_ret ?_|refine zx1 ?_|refine zx2 ?_|refine EX_seq_exit ?_|refine EX_loop_exit ?_|refine EX_mid_ret ?_|refine EX_mid_exit ?_|refine zr1 fun w hw => ?_|refine zr2 fun w hw => ?_|refine zr0 fun w hw => ?_|refine zr4 fun w hw => ?_|refine zr3 fun w hw => ?_|refine zg4 ?_|refine zg2 ?_|refine zg5 ?_|refine zp4 ?_|refine zp5 ?_|refine zc8 ?_|refine zp1 ?_|refine zp2 ?_|refine zm9 fun _ => ?_|refine zm2 fun _ => ?_|refine zm1 fun _ _ => ?_|refine za1 fun _ _ => ?_|refine za2 fun _ _ => ?_|refine zm4 ?_|refine zm5 ?_|refine zm6 ?_|refine zm7 fun _ => ?_|refine zm8 fun _ => ?_|refine zm3 fun _ => ?_|refine zcS ?_|refine zcT ?_|refine zp7 ?_|refine zp8 ?_|refine zq7 ?_|refine zq8 ?_|refine zc5 (fun _ => ?_) fun _ => ?_|refine zp3 (fun _ => ?_) fun _ => ?_|refine zp6 (fun _ => ?_) fun _ => ?_|refine zc6 (fun _ => ?_) fun _ => ?_))
          refine EX_retC3 rfl rfl rfl rfl rfl (by first | exact .here | exact .there .here | exact .there (.there .here) | exact .there (.there (.there .here)) | exact .there (.there (.there (.there .here))) | exact .there (.there (.there (.there (.there .here)))) | exact .there (.there (.there (.there (.there (.there .here)))))) rfl fun w hw => ?_
          refine ⟨?_, hw.below⟩
          rw [hq', show j - (a + 1) + 1 + 1 = j - a + 1 by omega]
          unfold wordV
          rw [if_pos rfl, show ((a + (j - a + 1) : Nat) : Int) = (j : Int) + 1 by omega]
          rfl
        | false =>
          rw [hqt, if_neg (by simp)] at hq'
          (repeat' (first|refine zg1 ?_|refine WL_nil ?_|refine WQ_end ?_|refine zc7 ?_|refine CW_region ?_|refine zc1 ?_|refine zc2 ?_|refine zc3 ?_|refine zc4 ?_|refine CW_skip ?_|refine CW_ret ?_|refine CW_exit ?_|refine CW_block ?_|refine EX_seq ?_|refine EX_seq_ret ?_|refine EX_blk ?_|refine EX_blk_ret ?_|refine EX_loop_ret ?_|refine zx1 ?_|refine zx2 ?_|refine EX_seq_exit ?_|refine EX_loop_exit ?_|refine EX_mid_ret ?_|refine EX_mid_exit ?_|refine zr1 fun w hw => ?_|refine zr2 fun w hw => ?_|refine zr0 fun w hw => ?_|refine zr4 fun w hw => ?_|refine zr3 fun w hw => ?_|refine zg4 ?_|refine zg2 ?_|refine zg5 ?_|refine zp4 ?_|refine zp5 ?_|refine zc8 ?_|refine zp1 ?_|refine zp2 ?_|refine zm9 fun _ => ?_|refine zm2 fun _ => ?_|refine zm1 fun _ _ => ?_|refine za1 fun _ _ => ?_|refine za2 fun _ _ => ?_|refine zm4 ?_|refine zm5 ?_|refine zm6 ?_|refine zm7 fun _ => ?_|refine zm8 fun _ => ?_|refine zm3 fun _ => ?_|refine zcS ?_|refine zcT ?_|refine zp7 ?_|refine zp8 ?_|refine zq7 ?_|refine zq8 ?_|refine zc5 (fun _ => ?_) fun _ => ?_|refine zp3 (fun _ => ?_) fun _ => ?_|refine zp6 (fun _ => ?_) fun _ => ?_|refine zc6 (fun _ => ?_) fun _ => ?_))
          try any_goals (rename_i hx; first | exact absurd (congrArg (fun n : Nat => (n : Int)) h2n) hx | exact absurd (Int.ofNat_inj.1 hx) h2n)
          (apply WL_callV; rfl; rfl; rfl; (intro W hW; exact ref_Quotable acc (by omega) W))
          rw [hqt]
          (repeat' (first|refine zg1 ?_|refine WL_nil ?_|refine WQ_end ?_|refine zc7 ?_|refine CW_region ?_|refine zc1 ?_|refine zc2 ?_|refine zc3 ?_|refine zc4 ?_|refine CW_skip ?_|refine CW_ret ?_|refine CW_exit ?_|refine CW_block ?_|refine EX_seq ?_|refine EX_seq_ret ?_|refine EX_blk ?_|refine EX_blk_ret ?_|refine EX_loop_ret ?_|refine zx1 ?_|refine zx2 ?_|refine EX_seq_exit ?_|refine EX_loop_exit ?_|refine EX_mid_ret ?_|refine EX_mid_exit ?_|refine zr1 fun w hw => ?_|refine zr2 fun w hw => ?_|refine zr0 fun w hw => ?_|refine zr4 fun w hw => ?_|refine zr3 fun w hw => ?_|refine zg4 ?_|refine zg2 ?_|refine zg5 ?_|refine zp4 ?_|refine zp5 ?_|refine zc8 ?_|refine zp1 ?_|refine zp2 ?_|refine zm9 fun _ => ?_|refine zm2 fun _ => ?_|refine zm1 fun _ _ => ?_|refine za1 fun _ _ => ?_|refine za2 fun _ _ => ?_|refine zm4 ?_|refine zm5 ?_|refine zm6 ?_|refine zm7 fun _ => ?_|refine zm8 fun _ => ?_|refine zm3 fun _ => ?_|refine zcS ?_|refine zcT ?_|refine zp7 ?_|refine zp8 ?_|refine zq7 ?_|refine zq8 ?_|refine zc5 (fun _ => ?_) fun _ => ?_|refine zp3 (fun _ => ?_) fun _ => ?_|refine zp6 (fun _ => ?_) fun _ => ?_|refine zc6 (fun _ => ?_) fun _ => ?_))
          refine EX_retC3 rfl rfl rfl rfl rfl (by first | exact .here | exact .there .here | exact .there (.there .here) | exact .there (.there (.there .here)) | exact .there (.there (.there (.there .here))) | exact .there (.there (.there (.there (.there .here)))) | exact .there (.there (.there (.there (.there (.there .here)))))) rfl fun w hw => ?_
          exact ⟨by rw [hq']; rfl, hw.below⟩
    · have h39n : ¬ (s.getD j 0).toNat = 39 := fun h => h39 (UInt8.toNat_inj.1 h)
      rw [hd, qscan_cons h39, Option.map_map] at hz
      (repeat' (first|refine zg1 ?_|refine WL_nil ?_|refine WQ_end ?_|refine zc7 ?_|refine CW_region ?_|refine zc1 ?_|refine zc2 ?_|refine zc3 ?_|refine zc4 ?_|refine CW_skip ?_|refine CW_ret ?_|refine CW_exit ?_|refine CW_block ?_|refine EX_seq ?_|refine EX_seq_ret ?_|refine EX_blk ?_|refine EX_blk_ret ?_|refine EX_loop_ret ?_|refine zx1 ?_|refine zx2 ?_|refine EX_seq_exit ?_|refine EX_loop_exit ?_|refine EX_mid_ret ?_|refine EX_mid_exit ?_|refine zr1 fun w hw => ?_|refine zr2 fun w hw => ?_|refine zr0 fun w hw => ?_|refine zr4 fun w hw => ?_|refine zr3 fun w hw => ?_|refine zg4 ?_|refine zg2 ?_|refine zg5 ?_|refine zp4 ?_|refine zp5 ?_|refine zc8 ?_|refine zp1 ?_|refine zp2 ?_|refine zm9 fun _ => ?_|refine zm2 fun _ => ?_|refine zm1 fun _ _ => ?_|refine za1 fun _ _ => ?_|refine za2 fun _ _ => ?_|refine zm4 ?_|refine zm5 ?_|refine zm6 ?_|refine zm7 fun _ => ?_|refine zm8 fun _ => ?_|refine zm3 fun _ => ?_|refine zcS ?_|refine zcT ?_|refine zp7 ?_|refine zp8 ?_|refine zq7 ?_|refine zq8 ?_|refine zc5 (fun _ => ?_) fun _ => ?_|refine zp3 (fun _ => ?_) fun _ => ?_|refine zp6 (fun _ => ?_) fun _ => ?_|refine zc6 (fun _ => ?_) fun _ => ?_))
      refine EX_loop' (j + 1, acc ++ [s.getD j 0]) ⟨?_, Ent.refl, by dsimp only; omega, by dsimp only; omega, by dsimp only; omega, by simp; omega, ?_⟩
      · rw [e1]
        exact (by repeat (first | exact Cov.nil | refine Cov.cons rfl (by first | rfl | (congr 1; omega) | assumption) ?_))
      · dsimp only
        rw [hz]
        congr 1
        funext z
        simp; omega
  · have hjl : j = s.length := by omega
    subst hjl
    rw [List.drop_length] at hz
    have hq : quotedF (s.drop (a + 1)) = (1, default, 0) := by unfold quotedF; rw [hz]; rfl
    (repeat' (first|refine zg1 ?_|refine WL_nil ?_|refine WQ_end ?_|refine zc7 ?_|refine CW_region ?_|refine zc1 ?_|refine zc2 ?_|refine zc3 ?_|refine zc4 ?_|refine CW_skip ?_|refine CW_ret ?_|refine CW_exit ?_|refine CW_block ?_|refine EX_seq ?_|refine EX_seq_ret ?_|refine EX_blk ?_|refine EX_blk_ret ?_|refine EX_loop_ret ?_|refine zx1 ?_|refine zx2 ?_|refine EX_seq_exit ?_|refine EX_loop_exit ?_|refine EX_mid_ret ?_|refine EX_mid_exit ?_|refine zr1 fun w hw => ?_|refine zr2 fun w hw => ?_|refine zr0 fun w hw => ?_|refine zr4 fun w hw => ?_|refine zr3 fun w hw => ?_|refine zg4 ?_|refine zg2 ?_|refine zg5 ?_|refine zp4 ?_|refine zp5 ?_|refine zc8 ?_|refine zp1 ?_|refine zp2 ?_|refine zm9 fun _ => ?_|refine zm2 fun _ => ?_|refine zm1 fun _ _ => ?_|refine za1 fun _ _ => ?_|refine za2 fun _ _ => ?_|refine zm4 ?_|refine zm5 ?_|refine zm6 ?_|refine zm7 fun _ => ?_|refine zm8 fun _ => ?_|refine zm3 fun _ => ?_|refine zcS ?_|refine zcT ?_|refine zp7 ?_|refine zp8 ?_|refine zq7 ?_|refine zq8 ?_|refine zc5 (fun _ => ?_) fun _ => ?_|refine zp3 (fun _ => ?_) fun _ => ?_|refine zp6 (fun _ => ?_) fun _ => ?_|refine zc6 (fun _ => ?_) fun _ => ?_))
    refine EX_retC3 rfl rfl rfl rfl rfl (by first | exact .here | exact .there .here | exact .there (.there .here) | exact .there (.there (.there .here)) | exact .there (.there (.there (.there .here))) | exact .there (.there (.there (.there (.there .here)))) | exact .there (.there (.there (.there (.there (.there .here)))))) rfl fun w hw => ?_
    exact ⟨by rw [hq]; rfl, hw.below⟩
end Go.Proofs.YtnnidacekljihaaGreatDoor

namespace Go.Proofs.YtnnidacekljihaaGreatDoor
open Go.RowKit

theorem tw_in {p : UInt8 → Bool} : ∀ {l : List UInt8} {k : Nat}, k < (l.takeWhile p).length → k < l.length ∧ p (l.getD k 0) = true
  | [], k, h => by simp at h
  | b :: l, k, h => by
    rw [List.takeWhile_cons] at h
    split at h
    · rename_i hb
      cases k with
      | zero => exact ⟨by simp, hb⟩
      | succ k =>
        obtain ⟨h1, h2⟩ := tw_in (l := l) (k := k) (by simpa using h)
        exact ⟨by simpa using h1, by simpa using h2⟩
    · simp at h
theorem tw_out {p : UInt8 → Bool} : ∀ {l : List UInt8}, (l.takeWhile p).length < l.length → p (l.getD (l.takeWhile p).length 0) = false
  | [], h => by simp at h
  | b :: l, h => by
    rw [List.takeWhile_cons] at h ⊢
    split at h
    · rename_i hb
      rw [if_pos hb]
      have := tw_out (l := l) (by simpa using h)
      simpa using this
    · rename_i hb
      rw [if_neg hb]
      simpa using hb
theorem tw_part (p : UInt8 → Bool) (s : List UInt8) (a : Nat) : (s.take (a + ((s.drop a).takeWhile p).length)).drop a = (s.drop a).takeWhile p := by
  rw [List.drop_take, show a + ((s.drop a).takeWhile p).length - a = ((s.drop a).takeWhile p).length by omega]
  exact (List.prefix_iff_eq_take.1 (List.takeWhile_prefix p)).symm
theorem get_drop (s : List UInt8) (a k : Nat) : (s.drop a).getD k 0 = s.getD (a + k) 0 := by simp [List.getD_eq_getElem?_getD, List.getElem?_drop]
theorem wordF_quoted {l : List UInt8} (h1 : [194, 175].isPrefixOf l = false) (h2 : l.takeWhile isDigitB = []) (h3 : isLetterB (l.getD 0 0) = false) (h4 : l.getD 0 0 = 39) : wordF l = quotedF (l.drop 1) := by
  unfold wordF quotedF
  simp only
  rw [h1]
  simp only [Bool.false_eq_true, if_false]
  rw [h2, if_neg (by simp), h3, if_neg (by simp), if_pos h4]
  cases qscan (l.drop 1) <;> rfl
theorem wordF_num {l ds : List UInt8} {neg : Bool} (h1 : [194, 175].isPrefixOf l = neg) (h2 : (if neg = true then l.drop 2 else l).takeWhile isDigitB = ds) (h3 : ds ≠ []) : wordF l = match numF neg ds with
    | some v => (0, ⟨1, 0, v, [], 0⟩, (if neg = true then 2 else 0) + ds.length)
    | none => (6, default, 0) := by
  subst h1; subst h2
  unfold wordF
  simp only
  rw [if_pos h3]
  cases numF ([194, 175].isPrefixOf l) ((if [194, 175].isPrefixOf l = true then l.drop 2 else l).takeWhile isDigitB) <;> rfl
theorem wordF_minus {l : List UInt8} (h1 : [194, 175].isPrefixOf l = true) (h2 : (l.drop 2).takeWhile isDigitB = []) : wordF l = (1, default, 0) := by
  unfold wordF
  simp only
  rw [h1]
  simp only [if_true]
  rw [h2, if_neg (by simp)]
theorem wordF_name {l : List UInt8} (h1 : [194, 175].isPrefixOf l = false) (h2 : l.takeWhile isDigitB = []) (h3 : isLetterB (l.getD 0 0) = true) : wordF l = if 12 < (l.takeWhile isPartB).length then (7, default, 0) else (0, ⟨3, 0, 0, l.takeWhile isPartB, 0⟩, (l.takeWhile isPartB).length) := by
  unfold wordF
  simp only
  rw [h1]
  simp only [Bool.false_eq_true, if_false]
  rw [h2, if_neg (by simp), if_pos h3]
theorem wordF_sign {l : List UInt8} (h1 : [194, 175].isPrefixOf l = false) (h2 : l.takeWhile isDigitB = []) (h3 : isLetterB (l.getD 0 0) = false) (h4 : ¬ l.getD 0 0 = 39) : wordF l = if (signL glyphsB 1 l).1 ≠ 0 then (0, ⟨4, (signL glyphsB 1 l).1, 0, [], 0⟩, (signL glyphsB 1 l).2)
  else if (signL signsB 1 l).1 ≠ 0 then (0, ⟨4 + (signL signsB 1 l).1, 0, 0, [], 0⟩, (signL signsB 1 l).2)
  else (1, default, 0) := by
  unfold wordF
  simp only
  rw [h1]
  simp only [Bool.false_eq_true, if_false]
  rw [h2, if_neg (by simp), h3, if_neg (by simp), if_neg h4]

set_option maxHeartbeats 8000000 in
set_option maxRecDepth 100000 in
theorem ref_word (s : List UInt8) (a : Nat) (ha : a < s.length) (hs : s.length ≤ 4294967280) (w : World) :
    Calls Tryz.prog 17 #[.string ⟨s.toArray⟩, .int .i64 (a : Int)] w fun e w' => e = .returned (wordV a (wordF (s.drop a))) ∧ Below w.heap.size w w' := by
  refine enter (args := [_, _]) (m := []) (F := []) Tryz.func17 rfl Tryz.ntmps17 (by simp) rfl ?_
  have hal : (s.drop a).length = s.length - a := by simp
  (repeat' (first|refine zg1 ?_|refine WL_nil ?_|refine WQ_end ?_|refine zc7 ?_|refine CW_region ?_|refine zc1 ?_|refine zc2 ?_|refine zc3 ?_|refine zc4 ?_|refine CW_skip ?_|refine CW_ret ?_|refine CW_exit ?_|refine CW_block ?_|refine EX_seq ?_|refine EX_seq_ret ?_|refine EX_blk ?_|refine EX_blk_ret ?_|refine EX_loop_ret ?_|refine zx1 ?_|refine zx2 ?_|refine EX_seq_exit ?_|refine EX_loop_exit ?_|refine EX_mid_ret ?_|refine EX_mid_exit ?_|refine zr1 fun w hw => ?_|refine zr2 fun w hw => ?_|refine zr0 fun w hw => ?_|refine zr4 fun w hw => ?_|refine zr3 fun w hw => ?_|refine zg4 ?_|refine zg2 ?_|refine zg5 ?_|refine zp4 ?_|refine zp5 ?_|refine zc8 ?_|refine zp1 ?_|refine zp2 ?_|refine zm9 fun _ => ?_|refine zm2 fun _ => ?_|refine zm1 fun _ _ => ?_|refine za1 fun _ _ => ?_|refine za2 fun _ _ => ?_|refine zm4 ?_|refine zm5 ?_|refine zm6 ?_|refine zm7 fun _ => ?_|refine zm8 fun _ => ?_|refine zm3 fun _ => ?_|refine zcS ?_|refine zcT ?_|refine zp7 ?_|refine zp8 ?_|refine zq7 ?_|refine zq8 ?_|refine zc5 (fun _ => ?_) fun _ => ?_|refine zp3 (fun _ => ?_) fun _ => ?_|refine zp6 (fun _ => ?_) fun _ => ?_|refine zc6 (fun _ => ?_) fun _ => ?_))
  rename_i b1
  (apply WL_callV; rfl; rfl; rfl; (intro W hW; exact ref_Begins s a [194, 175] W (by omega) (by simp) (by omega)))
  obtain ⟨neg, hneg⟩ : ∃ neg, [194, 175].isPrefixOf (s.drop a) = neg := ⟨_, rfl⟩
  obtain ⟨off, hoff⟩ : ∃ off : Nat, off = if neg = true then 2 else 0 := ⟨_, rfl⟩
  have hofl : a + off ≤ s.length := by
    rw [hoff]
    cases neg with
    | true =>
      have := prefix_le hneg
      simp at this ⊢; omega
    | false => simp <;> omega
  have hrest : (if neg = true then (s.drop a).drop 2 else s.drop a) = s.drop (a + off) := by
    rw [hoff]; cases neg <;> simp [List.drop_drop]
  rw [hneg]
  (repeat' (first|refine zg1 ?_|refine WL_nil ?_|refine WQ_end ?_|refine zc7 ?_|refine CW_region ?_|refine zc1 ?_|refine zc2 ?_|refine zc3 ?_|refine zc4 ?_|refine CW_skip ?_|refine CW_ret ?_|refine CW_exit ?_|refine CW_block ?_|refine EX_seq ?_|refine EX_seq_ret ?_|refine EX_blk ?_|refine EX_blk_ret ?_|refine EX_loop_ret ?_|refine zx1 ?_|refine zx2 ?_|refine EX_seq_exit ?_|refine EX_loop_exit ?_|refine EX_mid_ret ?_|refine EX_mid_exit ?_|refine zr1 fun w hw => ?_|refine zr2 fun w hw => ?_|refine zr0 fun w hw => ?_|refine zr4 fun w hw => ?_|refine zr3 fun w hw => ?_|refine zg4 ?_|refine zg2 ?_|refine zg5 ?_|refine zp4 ?_|refine zp5 ?_|refine zc8 ?_|refine zp1 ?_|refine zp2 ?_|refine zm9 fun _ => ?_|refine zm2 fun _ => ?_|refine zm1 fun _ _ => ?_|refine za1 fun _ _ => ?_|refine za2 fun _ _ => ?_|refine zm4 ?_|refine zm5 ?_|refine zm6 ?_|refine zm7 fun _ => ?_|refine zm8 fun _ => ?_|refine zm3 fun _ => ?_|refine zcS ?_|refine zcT ?_|refine zp7 ?_|refine zp8 ?_|refine zq7 ?_|refine zq8 ?_|refine zc5 (fun _ => ?_) fun _ => ?_|refine zp3 (fun _ => ?_) fun _ => ?_|refine zp6 (fun _ => ?_) fun _ => ?_|refine zc6 (fun _ => ?_) fun _ => ?_))
  refine CW_cutP (X := Unit) [(0,_),(1,_),(4,_),(8,_)] (by repeat (first | exact Cov.nil | refine Cov.cons rfl (by first | rfl | (congr 1; omega) | assumption) ?_)) (fun _ => [(7, .int .i64 ((a + off : Nat) : Int))]) (fun _ => True) ?_ (fun _ _ => ?_)
  · cases neg with
    | true =>
      have ho : off = 2 := by rw [hoff]; rfl
      subst ho
      (repeat' (first|refine zg1 ?_|refine WL_nil ?_|refine WQ_end ?_|refine zc7 ?_|refine CW_region ?_|refine zc1 ?_|refine zc2 ?_|refine zc3 ?_|refine zc4 ?_|refine CW_skip ?_|refine CW_ret ?_|refine CW_exit ?_|refine CW_block ?_|refine EX_seq ?_|refine EX_seq_ret ?_|refine EX_blk ?_|refine EX_blk_ret ?_|refine EX_loop_ret ?_|refine zx1 ?_|refine zx2 ?_|refine EX_seq_exit ?_|refine EX_loop_exit ?_|refine EX_mid_ret ?_|refine EX_mid_exit ?_|refine zr1 fun w hw => ?_|refine zr2 fun w hw => ?_|refine zr0 fun w hw => ?_|refine zr4 fun w hw => ?_|refine zr3 fun w hw => ?_|refine zg4 ?_|refine zg2 ?_|refine zg5 ?_|refine zp4 ?_|refine zp5 ?_|refine zc8 ?_|refine zp1 ?_|refine zp2 ?_|refine zm9 fun _ => ?_|refine zm2 fun _ => ?_|refine zm1 fun _ _ => ?_|refine za1 fun _ _ => ?_|refine za2 fun _ _ => ?_|refine zm4 ?_|refine zm5 ?_|refine zm6 ?_|refine zm7 fun _ => ?_|refine zm8 fun _ => ?_|refine zm3 fun _ => ?_|refine zcS ?_|refine zcT ?_|refine zp7 ?_|refine zp8 ?_|refine zq7 ?_|refine zq8 ?_|refine zc5 (fun _ => ?_) fun _ => ?_|refine zp3 (fun _ => ?_) fun _ => ?_|refine zp6 (fun _ => ?_) fun _ => ?_|refine zc6 (fun _ => ?_) fun _ => ?_))
      exact EX_mid' () ⟨(by repeat (first | exact Cov.nil | refine Cov.cons rfl (by first | rfl | (congr 1; omega) | assumption) ?_)), Ent.refl, trivial⟩
    | false =>
      have ho : off = 0 := by rw [hoff]; rfl
      subst ho
      (repeat' (first|refine zg1 ?_|refine WL_nil ?_|refine WQ_end ?_|refine zc7 ?_|refine CW_region ?_|refine zc1 ?_|refine zc2 ?_|refine zc3 ?_|refine zc4 ?_|refine CW_skip ?_|refine CW_ret ?_|refine CW_exit ?_|refine CW_block ?_|refine EX_seq ?_|refine EX_seq_ret ?_|refine EX_blk ?_|refine EX_blk_ret ?_|refine EX_loop_ret ?_|refine zx1 ?_|refine zx2 ?_|refine EX_seq_exit ?_|refine EX_loop_exit ?_|refine EX_mid_ret ?_|refine EX_mid_exit ?_|refine zr1 fun w hw => ?_|refine zr2 fun w hw => ?_|refine zr0 fun w hw => ?_|refine zr4 fun w hw => ?_|refine zr3 fun w hw => ?_|refine zg4 ?_|refine zg2 ?_|refine zg5 ?_|refine zp4 ?_|refine zp5 ?_|refine zc8 ?_|refine zp1 ?_|refine zp2 ?_|refine zm9 fun _ => ?_|refine zm2 fun _ => ?_|refine zm1 fun _ _ => ?_|refine za1 fun _ _ => ?_|refine za2 fun _ _ => ?_|refine zm4 ?_|refine zm5 ?_|refine zm6 ?_|refine zm7 fun _ => ?_|refine zm8 fun _ => ?_|refine zm3 fun _ => ?_|refine zcS ?_|refine zcT ?_|refine zp7 ?_|refine zp8 ?_|refine zq7 ?_|refine zq8 ?_|refine zc5 (fun _ => ?_) fun _ => ?_|refine zp3 (fun _ => ?_) fun _ => ?_|refine zp6 (fun _ => ?_) fun _ => ?_|refine zc6 (fun _ => ?_) fun _ => ?_))
      exact EX_mid' () ⟨(by repeat (first | exact Cov.nil | refine Cov.cons rfl (by first | rfl | (congr 1; omega) | assumption) ?_)), Ent.refl, trivial⟩
  obtain ⟨ds, hds⟩ : ∃ ds, (s.drop (a + off)).takeWhile isDigitB = ds := ⟨_, rfl⟩
  have hdl : a + off + ds.length ≤ s.length := by
    rw [← hds]
    have := takeWhile_le isDigitB (s.drop (a + off))
    rw [List.length_drop] at this; omega
  have hg0 : (s.drop a).getD 0 0 = s.getD a 0 := by simp
  (repeat' (first|refine zg1 ?_|refine WL_nil ?_|refine WQ_end ?_|refine zc7 ?_|refine CW_region ?_|refine zc1 ?_|refine zc2 ?_|refine zc3 ?_|refine zc4 ?_|refine CW_skip ?_|refine CW_ret ?_|refine CW_exit ?_|refine CW_block ?_|refine EX_seq ?_|refine EX_seq_ret ?_|refine EX_blk ?_|refine EX_blk_ret ?_|refine EX_loop_ret ?_|refine zx1 ?_|refine zx2 ?_|refine EX_seq_exit ?_|refine EX_loop_exit ?_|refine EX_mid_ret ?_|refine EX_mid_exit ?_|refine zr1 fun w hw => ?_|refine zr2 fun w hw => ?_|refine zr0 fun w hw => ?_|refine zr4 fun w hw => ?_|refine zr3 fun w hw => ?_|refine zg4 ?_|refine zg2 ?_|refine zg5 ?_|refine zp4 ?_|refine zp5 ?_|refine zc8 ?_|refine zp1 ?_|refine zp2 ?_|refine zm9 fun _ => ?_|refine zm2 fun _ => ?_|refine zm1 fun _ _ => ?_|refine za1 fun _ _ => ?_|refine za2 fun _ _ => ?_|refine zm4 ?_|refine zm5 ?_|refine zm6 ?_|refine zm7 fun _ => ?_|refine zm8 fun _ => ?_|refine zm3 fun _ => ?_|refine zcS ?_|refine zcT ?_|refine zp7 ?_|refine zp8 ?_|refine zq7 ?_|refine zq8 ?_|refine zc5 (fun _ => ?_) fun _ => ?_|refine zp3 (fun _ => ?_) fun _ => ?_|refine zp6 (fun _ => ?_) fun _ => ?_|refine zc6 (fun _ => ?_) fun _ => ?_))
  refine CW_midB [(0,_),(1,_),(4,_),(7,_),(8,_)] (by repeat (first | exact Cov.nil | refine Cov.cons rfl (by first | rfl | (congr 1; omega) | assumption) ?_)) (fun _ : Unit => [(9, .int .i64 ((a + off + ds.length : Nat) : Int))]) (fun _ => True) ?_ (fun _ _ => ?_)
  · refine CW_loopP [(0,_),(1,_),(4,_),(7,_),(8,_)] (by repeat (first | exact Cov.nil | refine Cov.cons rfl (by first | rfl | (congr 1; omega) | assumption) ?_)) (fun x : Nat => [(9, .int .i64 ((a + off + x : Nat) : Int))]) (fun x => x ≤ ds.length) (fun x => ds.length - x) 0 (Nat.zero_le _) (by repeat (first | exact Cov.nil | refine Cov.cons rfl (by first | rfl | (congr 1; omega) | assumption) ?_)) ?_
    rintro k hk
    by_cases hlt : k < ds.length
    · obtain ⟨h1, h2⟩ := tw_in (p := isDigitB) (l := s.drop (a + off)) (k := k) (by rw [hds]; exact hlt)
      rw [get_drop] at h2
      rw [List.length_drop] at h1
      (repeat' (first|refine zg1 ?_|refine WL_nil ?_|refine WQ_end ?_|refine zc7 ?_|refine CW_region ?_|refine zc1 ?_|refine zc2 ?_|refine zc3 ?_|refine zc4 ?_|refine CW_skip ?_|refine CW_ret ?_|refine CW_exit ?_|refine CW_block ?_|refine EX_seq ?_|refine EX_seq_ret ?_|refine EX_blk ?_|refine EX_blk_ret ?_|refine EX_loop_ret ?_|refine zx1 ?_|refine zx2 ?_|refine EX_seq_exit ?_|refine EX_loop_exit ?_|refine EX_mid_ret ?_|refine EX_mid_exit ?_|refine zr1 fun w hw => ?_|refine zr2 fun w hw => ?_|refine zr0 fun w hw => ?_|refine zr4 fun w hw => ?_|refine zr3 fun w hw => ?_|refine zg4 ?_|refine zg2 ?_|refine zg5 ?_|refine zp4 ?_|refine zp5 ?_|refine zc8 ?_|refine zp1 ?_|refine zp2 ?_|refine zm9 fun _ => ?_|refine zm2 fun _ => ?_|refine zm1 fun _ _ => ?_|refine za1 fun _ _ => ?_|refine za2 fun _ _ => ?_|refine zm4 ?_|refine zm5 ?_|refine zm6 ?_|refine zm7 fun _ => ?_|refine zm8 fun _ => ?_|refine zm3 fun _ => ?_|refine zcS ?_|refine zcT ?_|refine zp7 ?_|refine zp8 ?_|refine zq7 ?_|refine zq8 ?_|refine zc5 (fun _ => ?_) fun _ => ?_|refine zp3 (fun _ => ?_) fun _ => ?_|refine zp6 (fun _ => ?_) fun _ => ?_|refine zc6 (fun _ => ?_) fun _ => ?_))
      (apply WL_callV; rfl; rfl; rfl; (intro W hW; exact ref_isDigit _ W))
      rw [h2]
      (repeat' (first|refine zg1 ?_|refine WL_nil ?_|refine WQ_end ?_|refine zc7 ?_|refine CW_region ?_|refine zc1 ?_|refine zc2 ?_|refine zc3 ?_|refine zc4 ?_|refine CW_skip ?_|refine CW_ret ?_|refine CW_exit ?_|refine CW_block ?_|refine EX_seq ?_|refine EX_seq_ret ?_|refine EX_blk ?_|refine EX_blk_ret ?_|refine EX_loop_ret ?_|refine zx1 ?_|refine zx2 ?_|refine EX_seq_exit ?_|refine EX_loop_exit ?_|refine EX_mid_ret ?_|refine EX_mid_exit ?_|refine zr1 fun w hw => ?_|refine zr2 fun w hw => ?_|refine zr0 fun w hw => ?_|refine zr4 fun w hw => ?_|refine zr3 fun w hw => ?_|refine zg4 ?_|refine zg2 ?_|refine zg5 ?_|refine zp4 ?_|refine zp5 ?_|refine zc8 ?_|refine zp1 ?_|refine zp2 ?_|refine zm9 fun _ => ?_|refine zm2 fun _ => ?_|refine zm1 fun _ _ => ?_|refine za1 fun _ _ => ?_|refine za2 fun _ _ => ?_|refine zm4 ?_|refine zm5 ?_|refine zm6 ?_|refine zm7 fun _ => ?_|refine zm8 fun _ => ?_|refine zm3 fun _ => ?_|refine zcS ?_|refine zcT ?_|refine zp7 ?_|refine zp8 ?_|refine zq7 ?_|refine zq8 ?_|refine zc5 (fun _ => ?_) fun _ => ?_|refine zp3 (fun _ => ?_) fun _ => ?_|refine zp6 (fun _ => ?_) fun _ => ?_|refine zc6 (fun _ => ?_) fun _ => ?_))
      exact EX_loop' (k + 1) ⟨(by repeat (first | exact Cov.nil | refine Cov.cons rfl (by first | rfl | (congr 1; omega) | assumption) ?_)), Ent.refl, by omega, by omega⟩
    · have hkl : k = ds.length := by omega
      subst hkl
      by_cases hend : a + off + ds.length < s.length
      · have h2 : isDigitB (s.getD (a + off + ds.length) 0) = false := by
          have := tw_out (p := isDigitB) (l := s.drop (a + off)) (by rw [hds, List.length_drop]; omega)
          rw [hds, get_drop] at this
          exact this
        (repeat' (first|refine zg1 ?_|refine WL_nil ?_|refine WQ_end ?_|refine zc7 ?_|refine CW_region ?_|refine zc1 ?_|refine zc2 ?_|refine zc3 ?_|refine zc4 ?_|refine CW_skip ?_|refine CW_ret ?_|refine CW_exit ?_|refine CW_block ?_|refine EX_seq ?_|refine EX_seq_ret ?_|refine EX_blk ?_|refine EX_blk_ret ?_|refine EX_loop_ret ?_|refine zx1 ?_|refine zx2 ?_|refine EX_seq_exit ?_|refine EX_loop_exit ?_|refine EX_mid_ret ?_|refine EX_mid_exit ?_|refine zr1 fun w hw => ?_|refine zr2 fun w hw => ?_|refine zr0 fun w hw => ?_|refine zr4 fun w hw => ?_|refine zr3 fun w hw => ?_|refine zg4 ?_|refine zg2 ?_|refine zg5 ?_|refine zp4 ?_|refine zp5 ?_|refine zc8 ?_|refine zp1 ?_|refine zp2 ?_|refine zm9 fun _ => ?_|refine zm2 fun _ => ?_|refine zm1 fun _ _ => ?_|refine za1 fun _ _ => ?_|refine za2 fun _ _ => ?_|refine zm4 ?_|refine zm5 ?_|refine zm6 ?_|refine zm7 fun _ => ?_|refine zm8 fun _ => ?_|refine zm3 fun _ => ?_|refine zcS ?_|refine zcT ?_|refine zp7 ?_|refine zp8 ?_|refine zq7 ?_|refine zq8 ?_|refine zc5 (fun _ => ?_) fun _ => ?_|refine zp3 (fun _ => ?_) fun _ => ?_|refine zp6 (fun _ => ?_) fun _ => ?_|refine zc6 (fun _ => ?_) fun _ => ?_))
        (apply WL_callV; rfl; rfl; rfl; (intro W hW; exact ref_isDigit _ W))
        rw [h2]
        (repeat' (first|refine zg1 ?_|refine WL_nil ?_|refine WQ_end ?_|refine zc7 ?_|refine CW_region ?_|refine zc1 ?_|refine zc2 ?_|refine zc3 ?_|refine zc4 ?_|refine CW_skip ?_|refine CW_ret ?_|refine CW_exit ?_|refine CW_block ?_|refine EX_seq ?_|refine EX_seq_ret ?_|refine EX_blk ?_|refine EX_blk_ret ?_|refine EX_loop_ret ?_|refine zx1 ?_|refine zx2 ?_|refine EX_seq_exit ?_|refine EX_loop_exit ?_|refine EX_mid_ret ?_|refine EX_mid_exit ?_|refine zr1 fun w hw => ?_|refine zr2 fun w hw => ?_|refine zr0 fun w hw => ?_|refine zr4 fun w hw => ?_|refine zr3 fun w hw => ?_|refine zg4 ?_|refine zg2 ?_|refine zg5 ?_|refine zp4 ?_|refine zp5 ?_|refine zc8 ?_|refine zp1 ?_|refine zp2 ?_|refine zm9 fun _ => ?_|refine zm2 fun _ => ?_|refine zm1 fun _ _ => ?_|refine za1 fun _ _ => ?_|refine za2 fun _ _ => ?_|refine zm4 ?_|refine zm5 ?_|refine zm6 ?_|refine zm7 fun _ => ?_|refine zm8 fun _ => ?_|refine zm3 fun _ => ?_|refine zcS ?_|refine zcT ?_|refine zp7 ?_|refine zp8 ?_|refine zq7 ?_|refine zq8 ?_|refine zc5 (fun _ => ?_) fun _ => ?_|refine zp3 (fun _ => ?_) fun _ => ?_|refine zp6 (fun _ => ?_) fun _ => ?_|refine zc6 (fun _ => ?_) fun _ => ?_))
        exact EX_mid' () ⟨(by repeat (first | exact Cov.nil | refine Cov.cons rfl (by first | rfl | (congr 1; omega) | assumption) ?_)), Ent.refl, trivial⟩
      · (repeat' (first|refine zg1 ?_|refine WL_nil ?_|refine WQ_end ?_|refine zc7 ?_|refine CW_region ?_|refine zc1 ?_|refine zc2 ?_|refine zc3 ?_|refine zc4 ?_|refine CW_skip ?_|refine CW_ret ?_|refine CW_exit ?_|refine CW_block ?_|refine EX_seq ?_|refine EX_seq_ret ?_|refine EX_blk ?_|refine EX_blk_ret ?_|refine EX_loop_ret ?_|refine zx1 ?_|refine zx2 ?_|refine EX_seq_exit ?_|refine EX_loop_exit ?_|refine EX_mid_ret ?_|refine EX_mid_exit ?_|refine zr1 fun w hw => ?_|refine zr2 fun w hw => ?_|refine zr0 fun w hw => ?_|refine zr4 fun w hw => ?_|refine zr3 fun w hw => ?_|refine zg4 ?_|refine zg2 ?_|refine zg5 ?_|refine zp4 ?_|refine zp5 ?_|refine zc8 ?_|refine zp1 ?_|refine zp2 ?_|refine zm9 fun _ => ?_|refine zm2 fun _ => ?_|refine zm1 fun _ _ => ?_|refine za1 fun _ _ => ?_|refine za2 fun _ _ => ?_|refine zm4 ?_|refine zm5 ?_|refine zm6 ?_|refine zm7 fun _ => ?_|refine zm8 fun _ => ?_|refine zm3 fun _ => ?_|refine zcS ?_|refine zcT ?_|refine zp7 ?_|refine zp8 ?_|refine zq7 ?_|refine zq8 ?_|refine zc5 (fun _ => ?_) fun _ => ?_|refine zp3 (fun _ => ?_) fun _ => ?_|refine zp6 (fun _ => ?_) fun _ => ?_|refine zc6 (fun _ => ?_) fun _ => ?_))
        exact EX_mid' () ⟨(by repeat (first | exact Cov.nil | refine Cov.cons rfl (by first | rfl | (congr 1; omega) | assumption) ?_)), Ent.refl, trivial⟩
  by_cases hds0 : ds = []
  · have hdl0 : ds.length = 0 := by rw [hds0]; rfl
    cases neg with
    | true =>
      have hW := wordF_minus hneg (by rw [← hds0, ← hds, ← hrest]; rfl)
      (repeat' (first|refine zg1 ?_|refine WL_nil ?_|refine WQ_end ?_|refine zc7 ?_|refine CW_region ?_|refine zc1 ?_|refine zc2 ?_|refine zc3 ?_|refine zc4 ?_|refine CW_skip ?_|refine CW_ret ?_|refine CW_exit ?_|refine CW_block ?_|refine EX_seq ?_|refine EX_seq_ret ?_|refine EX_blk ?_|refine EX_blk_ret ?_|refine EX_loop_ret ?_|refine zx1 ?_|refine zx2 ?_|refine EX_seq_exit ?_|refine EX_loop_exit ?_|refine EX_mid_ret ?_|refine EX_mid_exit ?_|refine zr1 fun w hw => ?_|refine zr2 fun w hw => ?_|refine zr0 fun w hw => ?_|refine zr4 fun w hw => ?_|refine zr3 fun w hw => ?_|refine zg4 ?_|refine zg2 ?_|refine zg5 ?_|refine zp4 ?_|refine zp5 ?_|refine zc8 ?_|refine zp1 ?_|refine zp2 ?_|refine zm9 fun _ => ?_|refine zm2 fun _ => ?_|refine zm1 fun _ _ => ?_|refine za1 fun _ _ => ?_|refine za2 fun _ _ => ?_|refine zm4 ?_|refine zm5 ?_|refine zm6 ?_|refine zm7 fun _ => ?_|refine zm8 fun _ => ?_|refine zm3 fun _ => ?_|refine zcS ?_|refine zcT ?_|refine zp7 ?_|refine zp8 ?_|refine zq7 ?_|refine zq8 ?_|refine zc5 (fun _ => ?_) fun _ => ?_|refine zp3 (fun _ => ?_) fun _ => ?_|refine zp6 (fun _ => ?_) fun _ => ?_|refine zc6 (fun _ => ?_) fun _ => ?_))
      refine EX_retC3 rfl rfl rfl rfl rfl (by first | exact .here | exact .there .here | exact .there (.there .here) | exact .there (.there (.there .here)) | exact .there (.there (.there (.there .here))) | exact .there (.there (.there (.there (.there .here)))) | exact .there (.there (.there (.there (.there (.there .here)))))) rfl fun w hw => ?_
      exact ⟨by rw [hW]; rfl, hw.below⟩
    | false =>
      have ho : off = 0 := by rw [hoff]; rfl
      subst ho
      have hdd : (s.drop a).takeWhile isDigitB = [] := by rw [← hds0, ← hds]; rfl
      (repeat' (first|refine zg1 ?_|refine WL_nil ?_|refine WQ_end ?_|refine zc7 ?_|refine CW_region ?_|refine zc1 ?_|refine zc2 ?_|refine zc3 ?_|refine zc4 ?_|refine CW_skip ?_|refine CW_ret ?_|refine CW_exit ?_|refine CW_block ?_|refine EX_seq ?_|refine EX_seq_ret ?_|refine EX_blk ?_|refine EX_blk_ret ?_|refine EX_loop_ret ?_|refine zx1 ?_|refine zx2 ?_|refine EX_seq_exit ?_|refine EX_loop_exit ?_|refine EX_mid_ret ?_|refine EX_mid_exit ?_|refine zr1 fun w hw => ?_|refine zr2 fun w hw => ?_|refine zr0 fun w hw => ?_|refine zr4 fun w hw => ?_|refine zr3 fun w hw => ?_|refine zg4 ?_|refine zg2 ?_|refine zg5 ?_|refine zp4 ?_|refine zp5 ?_|refine zc8 ?_|refine zp1 ?_|refine zp2 ?_|refine zm9 fun _ => ?_|refine zm2 fun _ => ?_|refine zm1 fun _ _ => ?_|refine za1 fun _ _ => ?_|refine za2 fun _ _ => ?_|refine zm4 ?_|refine zm5 ?_|refine zm6 ?_|refine zm7 fun _ => ?_|refine zm8 fun _ => ?_|refine zm3 fun _ => ?_|refine zcS ?_|refine zcT ?_|refine zp7 ?_|refine zp8 ?_|refine zq7 ?_|refine zq8 ?_|refine zc5 (fun _ => ?_) fun _ => ?_|refine zp3 (fun _ => ?_) fun _ => ?_|refine zp6 (fun _ => ?_) fun _ => ?_|refine zc6 (fun _ => ?_) fun _ => ?_))
      (apply WL_callV; rfl; rfl; rfl; (intro W hW; exact ref_isLetter _ W))
      cases hlet : isLetterB (s.getD a 0) with
      | true =>
        have hW := wordF_name hneg hdd (by rw [hg0]; exact hlet)
        have htp := tw_part isPartB s a
        obtain ⟨tw, htw⟩ : ∃ tw, (s.drop a).takeWhile isPartB = tw := ⟨_, rfl⟩
        have htl : a + tw.length ≤ s.length := by
          rw [← htw]
          have := takeWhile_le isPartB (s.drop a)
          rw [List.length_drop] at this; omega
        rw [htw] at htp hW
        (repeat' (first|refine zg1 ?_|refine WL_nil ?_|refine WQ_end ?_|refine zc7 ?_|refine CW_region ?_|refine zc1 ?_|refine zc2 ?_|refine zc3 ?_|refine zc4 ?_|refine CW_skip ?_|refine CW_ret ?_|refine CW_exit ?_|refine CW_block ?_|refine EX_seq ?_|refine EX_seq_ret ?_|refine EX_blk ?_|refine EX_blk_ret ?_|refine EX_loop_ret ?_|refine zx1 ?_|refine zx2 ?_|refine EX_seq_exit ?_|refine EX_loop_exit ?_|refine EX_mid_ret ?_|refine EX_mid_exit ?_|refine zr1 fun w hw => ?_|refine zr2 fun w hw => ?_|refine zr0 fun w hw => ?_|refine zr4 fun w hw => ?_|refine zr3 fun w hw => ?_|refine zg4 ?_|refine zg2 ?_|refine zg5 ?_|refine zp4 ?_|refine zp5 ?_|refine zc8 ?_|refine zp1 ?_|refine zp2 ?_|refine zm9 fun _ => ?_|refine zm2 fun _ => ?_|refine zm1 fun _ _ => ?_|refine za1 fun _ _ => ?_|refine za2 fun _ _ => ?_|refine zm4 ?_|refine zm5 ?_|refine zm6 ?_|refine zm7 fun _ => ?_|refine zm8 fun _ => ?_|refine zm3 fun _ => ?_|refine zcS ?_|refine zcT ?_|refine zp7 ?_|refine zp8 ?_|refine zq7 ?_|refine zq8 ?_|refine zc5 (fun _ => ?_) fun _ => ?_|refine zp3 (fun _ => ?_) fun _ => ?_|refine zp6 (fun _ => ?_) fun _ => ?_|refine zc6 (fun _ => ?_) fun _ => ?_))
        refine CW_midB [(0,_),(1,_),(4,_)] (by repeat (first | exact Cov.nil | refine Cov.cons rfl (by first | rfl | (congr 1; omega) | assumption) ?_)) (fun _ : Unit => [(9, .int .i64 ((a + tw.length : Nat) : Int))]) (fun _ => True) ?_ (fun _ _ => ?_)
        · refine CW_loopP [(0,_),(1,_),(4,_)] (by repeat (first | exact Cov.nil | refine Cov.cons rfl (by first | rfl | (congr 1; omega) | assumption) ?_)) (fun x : Nat => [(9, .int .i64 ((a + x : Nat) : Int))]) (fun x => x ≤ tw.length) (fun x => tw.length - x) 0 (Nat.zero_le _) (by repeat (first | exact Cov.nil | refine Cov.cons rfl (by first | rfl | (congr 1; omega) | assumption) ?_)) ?_
          rintro k hk
          by_cases hlt : k < tw.length
          · obtain ⟨h1, h2⟩ := tw_in (p := isPartB) (l := s.drop a) (k := k) (by rw [htw]; exact hlt)
            rw [get_drop] at h2
            rw [List.length_drop] at h1
            (repeat' (first|refine zg1 ?_|refine WL_nil ?_|refine WQ_end ?_|refine zc7 ?_|refine CW_region ?_|refine zc1 ?_|refine zc2 ?_|refine zc3 ?_|refine zc4 ?_|refine CW_skip ?_|refine CW_ret ?_|refine CW_exit ?_|refine CW_block ?_|refine EX_seq ?_|refine EX_seq_ret ?_|refine EX_blk ?_|refine EX_blk_ret ?_|refine EX_loop_ret ?_|refine zx1 ?_|refine zx2 ?_|refine EX_seq_exit ?_|refine EX_loop_exit ?_|refine EX_mid_ret ?_|refine EX_mid_exit ?_|refine zr1 fun w hw => ?_|refine zr2 fun w hw => ?_|refine zr0 fun w hw => ?_|refine zr4 fun w hw => ?_|refine zr3 fun w hw => ?_|refine zg4 ?_|refine zg2 ?_|refine zg5 ?_|refine zp4 ?_|refine zp5 ?_|refine zc8 ?_|refine zp1 ?_|refine zp2 ?_|refine zm9 fun _ => ?_|refine zm2 fun _ => ?_|refine zm1 fun _ _ => ?_|refine za1 fun _ _ => ?_|refine za2 fun _ _ => ?_|refine zm4 ?_|refine zm5 ?_|refine zm6 ?_|refine zm7 fun _ => ?_|refine zm8 fun _ => ?_|refine zm3 fun _ => ?_|refine zcS ?_|refine zcT ?_|refine zp7 ?_|refine zp8 ?_|refine zq7 ?_|refine zq8 ?_|refine zc5 (fun _ => ?_) fun _ => ?_|refine zp3 (fun _ => ?_) fun _ => ?_|refine zp6 (fun _ => ?_) fun _ => ?_|refine zc6 (fun _ => ?_) fun _ => ?_))
            (apply WL_callV; rfl; rfl; rfl; (intro W hW; exact ref_isPart _ W))
            rw [h2]
            (repeat' (first|refine zg1 ?_|refine WL_nil ?_|refine WQ_end ?_|refine zc7 ?_|refine CW_region ?_|refine zc1 ?_|refine zc2 ?_|refine zc3 ?_|refine zc4 ?_|refine CW_skip ?_|refine CW_ret ?_|refine CW_exit ?_|refine CW_block ?_|refine EX_seq ?_|refine EX_seq_ret ?_|refine EX_blk ?_|refine EX_blk_ret ?_|refine EX_loop_ret ?_|refine zx1 ?_|refine zx2 ?_|refine EX_seq_exit ?_|refine EX_loop_exit ?_|refine EX_mid_ret ?_|refine EX_mid_exit ?_|refine zr1 fun w hw => ?_|refine zr2 fun w hw => ?_|refine zr0 fun w hw => ?_|refine zr4 fun w hw => ?_|refine zr3 fun w hw => ?_|refine zg4 ?_|refine zg2 ?_|refine zg5 ?_|refine zp4 ?_|refine zp5 ?_|refine zc8 ?_|refine zp1 ?_|refine zp2 ?_|refine zm9 fun _ => ?_|refine zm2 fun _ => ?_|refine zm1 fun _ _ => ?_|refine za1 fun _ _ => ?_|refine za2 fun _ _ => ?_|refine zm4 ?_|refine zm5 ?_|refine zm6 ?_|refine zm7 fun _ => ?_|refine zm8 fun _ => ?_|refine zm3 fun _ => ?_|refine zcS ?_|refine zcT ?_|refine zp7 ?_|refine zp8 ?_|refine zq7 ?_|refine zq8 ?_|refine zc5 (fun _ => ?_) fun _ => ?_|refine zp3 (fun _ => ?_) fun _ => ?_|refine zp6 (fun _ => ?_) fun _ => ?_|refine zc6 (fun _ => ?_) fun _ => ?_))
            exact EX_loop' (k + 1) ⟨(by repeat (first | exact Cov.nil | refine Cov.cons rfl (by first | rfl | (congr 1; omega) | assumption) ?_)), Ent.refl, by omega, by omega⟩
          · have hkl : k = tw.length := by omega
            subst hkl
            by_cases hend : a + tw.length < s.length
            · have h2 : isPartB (s.getD (a + tw.length) 0) = false := by
                have := tw_out (p := isPartB) (l := s.drop a) (by rw [htw, List.length_drop]; omega)
                rw [htw, get_drop] at this
                exact this
              (repeat' (first|refine zg1 ?_|refine WL_nil ?_|refine WQ_end ?_|refine zc7 ?_|refine CW_region ?_|refine zc1 ?_|refine zc2 ?_|refine zc3 ?_|refine zc4 ?_|refine CW_skip ?_|refine CW_ret ?_|refine CW_exit ?_|refine CW_block ?_|refine EX_seq ?_|refine EX_seq_ret ?_|refine EX_blk ?_|refine EX_blk_ret ?_|refine EX_loop_ret ?_|refine zx1 ?_|refine zx2 ?_|refine EX_seq_exit ?_|refine EX_loop_exit ?_|refine EX_mid_ret ?_|refine EX_mid_exit ?_|refine zr1 fun w hw => ?_|refine zr2 fun w hw => ?_|refine zr0 fun w hw => ?_|refine zr4 fun w hw => ?_|refine zr3 fun w hw => ?_|refine zg4 ?_|refine zg2 ?_|refine zg5 ?_|refine zp4 ?_|refine zp5 ?_|refine zc8 ?_|refine zp1 ?_|refine zp2 ?_|refine zm9 fun _ => ?_|refine zm2 fun _ => ?_|refine zm1 fun _ _ => ?_|refine za1 fun _ _ => ?_|refine za2 fun _ _ => ?_|refine zm4 ?_|refine zm5 ?_|refine zm6 ?_|refine zm7 fun _ => ?_|refine zm8 fun _ => ?_|refine zm3 fun _ => ?_|refine zcS ?_|refine zcT ?_|refine zp7 ?_|refine zp8 ?_|refine zq7 ?_|refine zq8 ?_|refine zc5 (fun _ => ?_) fun _ => ?_|refine zp3 (fun _ => ?_) fun _ => ?_|refine zp6 (fun _ => ?_) fun _ => ?_|refine zc6 (fun _ => ?_) fun _ => ?_))
              (apply WL_callV; rfl; rfl; rfl; (intro W hW; exact ref_isPart _ W))
              rw [h2]
              (repeat' (first|refine zg1 ?_|refine WL_nil ?_|refine WQ_end ?_|refine zc7 ?_|refine CW_region ?_|refine zc1 ?_|refine zc2 ?_|refine zc3 ?_|refine zc4 ?_|refine CW_skip ?_|refine CW_ret ?_|refine CW_exit ?_|refine CW_block ?_|refine EX_seq ?_|refine EX_seq_ret ?_|refine EX_blk ?_|refine EX_blk_ret ?_|refine EX_loop_ret ?_|refine zx1 ?_|refine zx2 ?_|refine EX_seq_exit ?_|refine EX_loop_exit ?_|refine EX_mid_ret ?_|refine EX_mid_exit ?_|refine zr1 fun w hw => ?_|refine zr2 fun w hw => ?_|refine zr0 fun w hw => ?_|refine zr4 fun w hw => ?_|refine zr3 fun w hw => ?_|refine zg4 ?_|refine zg2 ?_|refine zg5 ?_|refine zp4 ?_|refine zp5 ?_|refine zc8 ?_|refine zp1 ?_|refine zp2 ?_|refine zm9 fun _ => ?_|refine zm2 fun _ => ?_|refine zm1 fun _ _ => ?_|refine za1 fun _ _ => ?_|refine za2 fun _ _ => ?_|refine zm4 ?_|refine zm5 ?_|refine zm6 ?_|refine zm7 fun _ => ?_|refine zm8 fun _ => ?_|refine zm3 fun _ => ?_|refine zcS ?_|refine zcT ?_|refine zp7 ?_|refine zp8 ?_|refine zq7 ?_|refine zq8 ?_|refine zc5 (fun _ => ?_) fun _ => ?_|refine zp3 (fun _ => ?_) fun _ => ?_|refine zp6 (fun _ => ?_) fun _ => ?_|refine zc6 (fun _ => ?_) fun _ => ?_))
              exact EX_mid' () ⟨(by repeat (first | exact Cov.nil | refine Cov.cons rfl (by first | rfl | (congr 1; omega) | assumption) ?_)), Ent.refl, trivial⟩
            · (repeat' (first|refine zg1 ?_|refine WL_nil ?_|refine WQ_end ?_|refine zc7 ?_|refine CW_region ?_|refine zc1 ?_|refine zc2 ?_|refine zc3 ?_|refine zc4 ?_|refine CW_skip ?_|refine CW_ret ?_|refine CW_exit ?_|refine CW_block ?_|refine EX_seq ?_|refine EX_seq_ret ?_|refine EX_blk ?_|refine EX_blk_ret ?_|refine EX_loop_ret ?_|refine zx1 ?_|refine zx2 ?_|refine EX_seq_exit ?_|refine EX_loop_exit ?_|refine EX_mid_ret ?_|refine EX_mid_exit ?_|refine zr1 fun w hw => ?_|refine zr2 fun w hw => ?_|refine zr0 fun w hw => ?_|refine zr4 fun w hw => ?_|refine zr3 fun w hw => ?_|refine zg4 ?_|refine zg2 ?_|refine zg5 ?_|refine zp4 ?_|refine zp5 ?_|refine zc8 ?_|refine zp1 ?_|refine zp2 ?_|refine zm9 fun _ => ?_|refine zm2 fun _ => ?_|refine zm1 fun _ _ => ?_|refine za1 fun _ _ => ?_|refine za2 fun _ _ => ?_|refine zm4 ?_|refine zm5 ?_|refine zm6 ?_|refine zm7 fun _ => ?_|refine zm8 fun _ => ?_|refine zm3 fun _ => ?_|refine zcS ?_|refine zcT ?_|refine zp7 ?_|refine zp8 ?_|refine zq7 ?_|refine zq8 ?_|refine zc5 (fun _ => ?_) fun _ => ?_|refine zp3 (fun _ => ?_) fun _ => ?_|refine zp6 (fun _ => ?_) fun _ => ?_|refine zc6 (fun _ => ?_) fun _ => ?_))
              exact EX_mid' () ⟨(by repeat (first | exact Cov.nil | refine Cov.cons rfl (by first | rfl | (congr 1; omega) | assumption) ?_)), Ent.refl, trivial⟩
        by_cases h12 : 12 < tw.length
        · rw [if_pos h12] at hW
          (repeat' (first|refine zg1 ?_|refine WL_nil ?_|refine WQ_end ?_|refine zc7 ?_|refine CW_region ?_|refine zc1 ?_|refine zc2 ?_|refine zc3 ?_|refine zc4 ?_|refine CW_skip ?_|refine CW_ret ?_|refine CW_exit ?_|refine CW_block ?_|refine EX_seq ?_|refine EX_seq_ret ?_|refine EX_blk ?_|refine EX_blk_ret ?_|refine EX_loop_ret ?_|refine zx1 ?_|refine zx2 ?_|refine EX_seq_exit ?_|refine EX_loop_exit ?_|refine EX_mid_ret ?_|refine EX_mid_exit ?_|refine zr1 fun w hw => ?_|refine zr2 fun w hw => ?_|refine zr0 fun w hw => ?_|refine zr4 fun w hw => ?_|refine zr3 fun w hw => ?_|refine zg4 ?_|refine zg2 ?_|refine zg5 ?_|refine zp4 ?_|refine zp5 ?_|refine zc8 ?_|refine zp1 ?_|refine zp2 ?_|refine zm9 fun _ => ?_|refine zm2 fun _ => ?_|refine zm1 fun _ _ => ?_|refine za1 fun _ _ => ?_|refine za2 fun _ _ => ?_|refine zm4 ?_|refine zm5 ?_|refine zm6 ?_|refine zm7 fun _ => ?_|refine zm8 fun _ => ?_|refine zm3 fun _ => ?_|refine zcS ?_|refine zcT ?_|refine zp7 ?_|refine zp8 ?_|refine zq7 ?_|refine zq8 ?_|refine zc5 (fun _ => ?_) fun _ => ?_|refine zp3 (fun _ => ?_) fun _ => ?_|refine zp6 (fun _ => ?_) fun _ => ?_|refine zc6 (fun _ => ?_) fun _ => ?_))
          refine EX_retC3 rfl rfl rfl rfl rfl (by first | exact .here | exact .there .here | exact .there (.there .here) | exact .there (.there (.there .here)) | exact .there (.there (.there (.there .here))) | exact .there (.there (.there (.there (.there .here)))) | exact .there (.there (.there (.there (.there (.there .here)))))) rfl fun w hw => ?_
          exact ⟨by rw [hW]; rfl, hw.below⟩
        · rw [if_neg h12] at hW
          (repeat' (first|refine zg1 ?_|refine WL_nil ?_|refine WQ_end ?_|refine zc7 ?_|refine CW_region ?_|refine zc1 ?_|refine zc2 ?_|refine zc3 ?_|refine zc4 ?_|refine CW_skip ?_|refine CW_ret ?_|refine CW_exit ?_|refine CW_block ?_|refine EX_seq ?_|refine EX_seq_ret ?_|refine EX_blk ?_|refine EX_blk_ret ?_|refine EX_loop_ret ?_|refine zx1 ?_|refine zx2 ?_|refine EX_seq_exit ?_|refine EX_loop_exit ?_|refine EX_mid_ret ?_|refine EX_mid_exit ?_|refine zr1 fun w hw => ?_|refine zr2 fun w hw => ?_|refine zr0 fun w hw => ?_|refine zr4 fun w hw => ?_|refine zr3 fun w hw => ?_|refine zg4 ?_|refine zg2 ?_|refine zg5 ?_|refine zp4 ?_|refine zp5 ?_|refine zc8 ?_|refine zp1 ?_|refine zp2 ?_|refine zm9 fun _ => ?_|refine zm2 fun _ => ?_|refine zm1 fun _ _ => ?_|refine za1 fun _ _ => ?_|refine za2 fun _ _ => ?_|refine zm4 ?_|refine zm5 ?_|refine zm6 ?_|refine zm7 fun _ => ?_|refine zm8 fun _ => ?_|refine zm3 fun _ => ?_|refine zcS ?_|refine zcT ?_|refine zp7 ?_|refine zp8 ?_|refine zq7 ?_|refine zq8 ?_|refine zc5 (fun _ => ?_) fun _ => ?_|refine zp3 (fun _ => ?_) fun _ => ?_|refine zp6 (fun _ => ?_) fun _ => ?_|refine zc6 (fun _ => ?_) fun _ => ?_))
          refine EX_retC3 rfl rfl rfl rfl rfl (by first | exact .here | exact .there .here | exact .there (.there .here) | exact .there (.there (.there .here)) | exact .there (.there (.there (.there .here))) | exact .there (.there (.there (.there (.there .here)))) | exact .there (.there (.there (.there (.there (.there .here)))))) rfl fun w hw => ?_
          refine ⟨?_, hw.below⟩
          rw [hW, htp]
          rfl
      | false =>
        by_cases h39 : s.getD a 0 = 39
        · have h39n : (s.getD a 0).toNat = 39 := by rw [h39]; rfl
          have hW := wordF_quoted hneg hdd (by rw [hg0]; exact hlet) (by rw [hg0]; exact h39)
          rw [List.drop_drop] at hW
          obtain ⟨e, t, n, hq⟩ : ∃ e t n, quotedF (s.drop (a + 1)) = (e, t, n) := ⟨_, _, _, rfl⟩
          (repeat' (first|refine zg1 ?_|refine WL_nil ?_|refine WQ_end ?_|refine zc7 ?_|refine CW_region ?_|refine zc1 ?_|refine zc2 ?_|refine zc3 ?_|refine zc4 ?_|refine CW_skip ?_|refine CW_ret ?_|refine CW_exit ?_|refine CW_block ?_|refine EX_seq ?_|refine EX_seq_ret ?_|refine EX_blk ?_|refine EX_blk_ret ?_|refine EX_loop_ret ?_|refine zx1 ?_|refine zx2 ?_|refine EX_seq_exit ?_|refine EX_loop_exit ?_|refine EX_mid_ret ?_|refine EX_mid_exit ?_|refine zr1 fun w hw => ?_|refine zr2 fun w hw => ?_|refine zr0 fun w hw => ?_|refine zr4 fun w hw => ?_|refine zr3 fun w hw => ?_|refine zg4 ?_|refine zg2 ?_|refine zg5 ?_|refine zp4 ?_|refine zp5 ?_|refine zc8 ?_|refine zp1 ?_|refine zp2 ?_|refine zm9 fun _ => ?_|refine zm2 fun _ => ?_|refine zm1 fun _ _ => ?_|refine za1 fun _ _ => ?_|refine za2 fun _ _ => ?_|refine zm4 ?_|refine zm5 ?_|refine zm6 ?_|refine zm7 fun _ => ?_|refine zm8 fun _ => ?_|refine zm3 fun _ => ?_|refine zcS ?_|refine zcT ?_|refine zp7 ?_|refine zp8 ?_|refine zq7 ?_|refine zq8 ?_|refine zc5 (fun _ => ?_) fun _ => ?_|refine zp3 (fun _ => ?_) fun _ => ?_|refine zp6 (fun _ => ?_) fun _ => ?_|refine zc6 (fun _ => ?_) fun _ => ?_))
          (apply WL_callV; rfl; rfl; rfl; (intro W hW; exact ref_quoted s a ha hs W))
          rw [hq]
          rw [hq] at hW
          by_cases he : e = 0
          · subst he
            rw [show wordV a (0, t, n) = .tuple #[.agg #[.int .i64 t.kind, .int .i64 t.fn, .int .i64 t.num, .string ⟨t.text.toArray⟩, .int .i64 (a : Int)], .int .i64 ((a + n : Nat) : Int), .int .i64 0] from rfl]
            (repeat' (first|refine zg1 ?_|refine WL_nil ?_|refine WQ_end ?_|refine zc7 ?_|refine CW_region ?_|refine zc1 ?_|refine zc2 ?_|refine zc3 ?_|refine zc4 ?_|refine CW_skip ?_|refine CW_ret ?_|refine CW_exit ?_|refine CW_block ?_|refine EX_seq ?_|refine EX_seq_ret ?_|refine EX_blk ?_|refine EX_blk_ret ?_|refine EX_loop_ret ?_|refine zx1 ?_|refine zx2 ?_|refine EX_seq_exit ?_|refine EX_loop_exit ?_|refine EX_mid_ret ?_|refine EX_mid_exit ?_|refine zr1 fun w hw => ?_|refine zr2 fun w hw => ?_|refine zr0 fun w hw => ?_|refine zr4 fun w hw => ?_|refine zr3 fun w hw => ?_|refine zg4 ?_|refine zg2 ?_|refine zg5 ?_|refine zp4 ?_|refine zp5 ?_|refine zc8 ?_|refine zp1 ?_|refine zp2 ?_|refine zm9 fun _ => ?_|refine zm2 fun _ => ?_|refine zm1 fun _ _ => ?_|refine za1 fun _ _ => ?_|refine za2 fun _ _ => ?_|refine zm4 ?_|refine zm5 ?_|refine zm6 ?_|refine zm7 fun _ => ?_|refine zm8 fun _ => ?_|refine zm3 fun _ => ?_|refine zcS ?_|refine zcT ?_|refine zp7 ?_|refine zp8 ?_|refine zq7 ?_|refine zq8 ?_|refine zc5 (fun _ => ?_) fun _ => ?_|refine zp3 (fun _ => ?_) fun _ => ?_|refine zp6 (fun _ => ?_) fun _ => ?_|refine zc6 (fun _ => ?_) fun _ => ?_))
            refine EX_retC3 rfl rfl rfl rfl rfl (by first | exact .here | exact .there .here | exact .there (.there .here) | exact .there (.there (.there .here)) | exact .there (.there (.there (.there .here))) | exact .there (.there (.there (.there (.there .here)))) | exact .there (.there (.there (.there (.there (.there .here)))))) rfl fun w hw => ?_
            exact ⟨by rw [hW]; rfl, hw.below⟩
          · have hV : wordV a (e, t, n) = .tuple #[.agg #[.int .i64 0, .int .i64 0, .int .i64 0, .string ⟨#[]⟩, .int .i64 0], .int .i64 0, .int .i64 e] := if_neg he
            rw [hV]
            (repeat' (first|refine zg1 ?_|refine WL_nil ?_|refine WQ_end ?_|refine zc7 ?_|refine CW_region ?_|refine zc1 ?_|refine zc2 ?_|refine zc3 ?_|refine zc4 ?_|refine CW_skip ?_|refine CW_ret ?_|refine CW_exit ?_|refine CW_block ?_|refine EX_seq ?_|refine EX_seq_ret ?_|refine EX_blk ?_|refine EX_blk_ret ?_|refine EX_loop_ret ?_|refine zx1 ?_|refine zx2 ?_|refine EX_seq_exit ?_|refine EX_loop_exit ?_|refine EX_mid_ret ?_|refine EX_mid_exit ?_|refine zr1 fun w hw => ?_|refine zr2 fun w hw => ?_|refine zr0 fun w hw => ?_|refine zr4 fun w hw => ?_|refine zr3 fun w hw => ?_|refine zg4 ?_|refine zg2 ?_|refine zg5 ?_|refine zp4 ?_|refine zp5 ?_|refine zc8 ?_|refine zp1 ?_|refine zp2 ?_|refine zm9 fun _ => ?_|refine zm2 fun _ => ?_|refine zm1 fun _ _ => ?_|refine za1 fun _ _ => ?_|refine za2 fun _ _ => ?_|refine zm4 ?_|refine zm5 ?_|refine zm6 ?_|refine zm7 fun _ => ?_|refine zm8 fun _ => ?_|refine zm3 fun _ => ?_|refine zcS ?_|refine zcT ?_|refine zp7 ?_|refine zp8 ?_|refine zq7 ?_|refine zq8 ?_|refine zc5 (fun _ => ?_) fun _ => ?_|refine zp3 (fun _ => ?_) fun _ => ?_|refine zp6 (fun _ => ?_) fun _ => ?_|refine zc6 (fun _ => ?_) fun _ => ?_))
            refine EX_retC3 rfl rfl rfl rfl rfl (by first | exact .here | exact .there .here | exact .there (.there .here) | exact .there (.there (.there .here)) | exact .there (.there (.there (.there .here))) | exact .there (.there (.there (.there (.there .here)))) | exact .there (.there (.there (.there (.there (.there .here)))))) rfl fun w hw => ?_
            exact ⟨by rw [hW, hV]; rfl, hw.below⟩
        · have h39n : ¬ (s.getD a 0).toNat = 39 := fun h => h39 (UInt8.toNat_inj.1 h)
          have hW := wordF_sign hneg hdd (by rw [hg0]; exact hlet) (by rw [hg0]; exact h39)
          obtain ⟨n1, l1, hs1⟩ : ∃ n1 l1, signL glyphsB 1 (s.drop a) = (n1, l1) := ⟨_, _, rfl⟩
          obtain ⟨n2, l2, hs2⟩ : ∃ n2 l2, signL signsB 1 (s.drop a) = (n2, l2) := ⟨_, _, rfl⟩
          have hb1 : n1 ≠ 0 → n1 ≤ 100 ∧ l1 ≤ s.length := fun h => by
            obtain ⟨i, g, k1, k2, k3⟩ := signL_some glyphsB 1 (by omega) (by rw [hs1]; exact h)
            rw [hs1] at k2
            simp only [Prod.mk.injEq] at k2
            have := prefix_le k3
            have hi := (List.getElem?_eq_some_iff.1 k1).1
            have hgl : glyphsB.length = 34 := by decide +kernel
            rw [List.length_drop] at this
            omega
          have hb2 : n2 ≠ 0 → n2 ≤ 100 ∧ l2 ≤ s.length := fun h => by
            obtain ⟨i, g, k1, k2, k3⟩ := signL_some signsB 1 (by omega) (by rw [hs2]; exact h)
            rw [hs2] at k2
            simp only [Prod.mk.injEq] at k2
            have := prefix_le k3
            have hi := (List.getElem?_eq_some_iff.1 k1).1
            have hgl : signsB.length = 16 := by decide +kernel
            rw [List.length_drop] at this
            omega
          have hS1 := fun W => ref_sign s a (by omega) (by omega) glyphsB.flatten glyphsB rfl (by decide +kernel) wfG W
          have hS2 := fun W => ref_sign s a (by omega) (by omega) signsB.flatten signsB rfl (by decide +kernel) wfS W
          rw [hs1] at hS1 hW
          rw [hs2] at hS2 hW
          dsimp only at hS1 hS2 hW
          by_cases hn1 : n1 = 0
          · rw [if_neg (by omega)] at hW
            by_cases hn2 : n2 = 0
            · rw [if_neg (by omega)] at hW
              (repeat' (first|refine zg1 ?_|refine WL_nil ?_|refine WQ_end ?_|refine zc7 ?_|refine CW_region ?_|refine zc1 ?_|refine zc2 ?_|refine zc3 ?_|refine zc4 ?_|refine CW_skip ?_|refine CW_ret ?_|refine CW_exit ?_|refine CW_block ?_|refine EX_seq ?_|refine EX_seq_ret ?_|refine EX_blk ?_|refine EX_blk_ret ?_|refine EX_loop_ret ?_|refine zx1 ?_|refine zx2 ?_|refine EX_seq_exit ?_|refine EX_loop_exit ?_|refine EX_mid_ret ?_|refine EX_mid_exit ?_|refine zr1 fun w hw => ?_|refine zr2 fun w hw => ?_|refine zr0 fun w hw => ?_|refine zr4 fun w hw => ?_|refine zr3 fun w hw => ?_|refine zg4 ?_|refine zg2 ?_|refine zg5 ?_|refine zp4 ?_|refine zp5 ?_|refine zc8 ?_|refine zp1 ?_|refine zp2 ?_|refine zm9 fun _ => ?_|refine zm2 fun _ => ?_|refine zm1 fun _ _ => ?_|refine za1 fun _ _ => ?_|refine za2 fun _ _ => ?_|refine zm4 ?_|refine zm5 ?_|refine zm6 ?_|refine zm7 fun _ => ?_|refine zm8 fun _ => ?_|refine zm3 fun _ => ?_|refine zcS ?_|refine zcT ?_|refine zp7 ?_|refine zp8 ?_|refine zq7 ?_|refine zq8 ?_|refine zc5 (fun _ => ?_) fun _ => ?_|refine zp3 (fun _ => ?_) fun _ => ?_|refine zp6 (fun _ => ?_) fun _ => ?_|refine zc6 (fun _ => ?_) fun _ => ?_))
              (apply WL_callV; rfl; rfl; rfl; (intro W hW; exact hS1 W))
              (repeat' (first|refine zg1 ?_|refine WL_nil ?_|refine WQ_end ?_|refine zc7 ?_|refine CW_region ?_|refine zc1 ?_|refine zc2 ?_|refine zc3 ?_|refine zc4 ?_|refine CW_skip ?_|refine CW_ret ?_|refine CW_exit ?_|refine CW_block ?_|refine EX_seq ?_|refine EX_seq_ret ?_|refine EX_blk ?_|refine EX_blk_ret ?_|refine EX_loop_ret ?_|refine zx1 ?_|refine zx2 ?_|refine EX_seq_exit ?_|refine EX_loop_exit ?_|refine EX_mid_ret ?_|refine EX_mid_exit ?_|refine zr1 fun w hw => ?_|refine zr2 fun w hw => ?_|refine zr0 fun w hw => ?_|refine zr4 fun w hw => ?_|refine zr3 fun w hw => ?_|refine zg4 ?_|refine zg2 ?_|refine zg5 ?_|refine zp4 ?_|refine zp5 ?_|refine zc8 ?_|refine zp1 ?_|refine zp2 ?_|refine zm9 fun _ => ?_|refine zm2 fun _ => ?_|refine zm1 fun _ _ => ?_|refine za1 fun _ _ => ?_|refine za2 fun _ _ => ?_|refine zm4 ?_|refine zm5 ?_|refine zm6 ?_|refine zm7 fun _ => ?_|refine zm8 fun _ => ?_|refine zm3 fun _ => ?_|refine zcS ?_|refine zcT ?_|refine zp7 ?_|refine zp8 ?_|refine zq7 ?_|refine zq8 ?_|refine zc5 (fun _ => ?_) fun _ => ?_|refine zp3 (fun _ => ?_) fun _ => ?_|refine zp6 (fun _ => ?_) fun _ => ?_|refine zc6 (fun _ => ?_) fun _ => ?_))
              (apply WL_callV; rfl; rfl; rfl; (intro W hW; exact hS2 W))
              (repeat' (first|refine zg1 ?_|refine WL_nil ?_|refine WQ_end ?_|refine zc7 ?_|refine CW_region ?_|refine zc1 ?_|refine zc2 ?_|refine zc3 ?_|refine zc4 ?_|refine CW_skip ?_|refine CW_ret ?_|refine CW_exit ?_|refine CW_block ?_|refine EX_seq ?_|refine EX_seq_ret ?_|refine EX_blk ?_|refine EX_blk_ret ?_|refine EX_loop_ret ?_|refine zx1 ?_|refine zx2 ?_|refine EX_seq_exit ?_|refine EX_loop_exit ?_|refine EX_mid_ret ?_|refine EX_mid_exit ?_|refine zr1 fun w hw => ?_|refine zr2 fun w hw => ?_|refine zr0 fun w hw => ?_|refine zr4 fun w hw => ?_|refine zr3 fun w hw => ?_|refine zg4 ?_|refine zg2 ?_|refine zg5 ?_|refine zp4 ?_|refine zp5 ?_|refine zc8 ?_|refine zp1 ?_|refine zp2 ?_|refine zm9 fun _ => ?_|refine zm2 fun _ => ?_|refine zm1 fun _ _ => ?_|refine za1 fun _ _ => ?_|refine za2 fun _ _ => ?_|refine zm4 ?_|refine zm5 ?_|refine zm6 ?_|refine zm7 fun _ => ?_|refine zm8 fun _ => ?_|refine zm3 fun _ => ?_|refine zcS ?_|refine zcT ?_|refine zp7 ?_|refine zp8 ?_|refine zq7 ?_|refine zq8 ?_|refine zc5 (fun _ => ?_) fun _ => ?_|refine zp3 (fun _ => ?_) fun _ => ?_|refine zp6 (fun _ => ?_) fun _ => ?_|refine zc6 (fun _ => ?_) fun _ => ?_))
              refine EX_retC3 rfl rfl rfl rfl rfl (by first | exact .here | exact .there .here | exact .there (.there .here) | exact .there (.there (.there .here)) | exact .there (.there (.there (.there .here))) | exact .there (.there (.there (.there (.there .here)))) | exact .there (.there (.there (.there (.there (.there .here)))))) rfl fun w hw => ?_
              exact ⟨by rw [hW]; rfl, hw.below⟩
            · rw [if_pos hn2] at hW
              obtain ⟨c1, c2⟩ := hb2 hn2
              (repeat' (first|refine zg1 ?_|refine WL_nil ?_|refine WQ_end ?_|refine zc7 ?_|refine CW_region ?_|refine zc1 ?_|refine zc2 ?_|refine zc3 ?_|refine zc4 ?_|refine CW_skip ?_|refine CW_ret ?_|refine CW_exit ?_|refine CW_block ?_|refine EX_seq ?_|refine EX_seq_ret ?_|refine EX_blk ?_|refine EX_blk_ret ?_|refine EX_loop_ret ?_|refine zx1 ?_|refine zx2 ?_|refine EX_seq_exit ?_|refine EX_loop_exit ?_|refine EX_mid_ret ?_|refine EX_mid_exit ?_|refine zr1 fun w hw => ?_|refine zr2 fun w hw => ?_|refine zr0 fun w hw => ?_|refine zr4 fun w hw => ?_|refine zr3 fun w hw => ?_|refine zg4 ?_|refine zg2 ?_|refine zg5 ?_|refine zp4 ?_|refine zp5 ?_|refine zc8 ?_|refine zp1 ?_|refine zp2 ?_|refine zm9 fun _ => ?_|refine zm2 fun _ => ?_|refine zm1 fun _ _ => ?_|refine za1 fun _ _ => ?_|refine za2 fun _ _ => ?_|refine zm4 ?_|refine zm5 ?_|refine zm6 ?_|refine zm7 fun _ => ?_|refine zm8 fun _ => ?_|refine zm3 fun _ => ?_|refine zcS ?_|refine zcT ?_|refine zp7 ?_|refine zp8 ?_|refine zq7 ?_|refine zq8 ?_|refine zc5 (fun _ => ?_) fun _ => ?_|refine zp3 (fun _ => ?_) fun _ => ?_|refine zp6 (fun _ => ?_) fun _ => ?_|refine zc6 (fun _ => ?_) fun _ => ?_))
              (apply WL_callV; rfl; rfl; rfl; (intro W hW; exact hS1 W))
              (repeat' (first|refine zg1 ?_|refine WL_nil ?_|refine WQ_end ?_|refine zc7 ?_|refine CW_region ?_|refine zc1 ?_|refine zc2 ?_|refine zc3 ?_|refine zc4 ?_|refine CW_skip ?_|refine CW_ret ?_|refine CW_exit ?_|refine CW_block ?_|refine EX_seq ?_|refine EX_seq_ret ?_|refine EX_blk ?_|refine EX_blk_ret ?_|refine EX_loop_ret ?_|refine zx1 ?_|refine zx2 ?_|refine EX_seq_exit ?_|refine EX_loop_exit ?_|refine EX_mid_ret ?_|refine EX_mid_exit ?_|refine zr1 fun w hw => ?_|refine zr2 fun w hw => ?_|refine zr0 fun w hw => ?_|refine zr4 fun w hw => ?_|refine zr3 fun w hw => ?_|refine zg4 ?_|refine zg2 ?_|refine zg5 ?_|refine zp4 ?_|refine zp5 ?_|refine zc8 ?_|refine zp1 ?_|refine zp2 ?_|refine zm9 fun _ => ?_|refine zm2 fun _ => ?_|refine zm1 fun _ _ => ?_|refine za1 fun _ _ => ?_|refine za2 fun _ _ => ?_|refine zm4 ?_|refine zm5 ?_|refine zm6 ?_|refine zm7 fun _ => ?_|refine zm8 fun _ => ?_|refine zm3 fun _ => ?_|refine zcS ?_|refine zcT ?_|refine zp7 ?_|refine zp8 ?_|refine zq7 ?_|refine zq8 ?_|refine zc5 (fun _ => ?_) fun _ => ?_|refine zp3 (fun _ => ?_) fun _ => ?_|refine zp6 (fun _ => ?_) fun _ => ?_|refine zc6 (fun _ => ?_) fun _ => ?_))
              (apply WL_callV; rfl; rfl; rfl; (intro W hW; exact hS2 W))
              (repeat' (first|refine zg1 ?_|refine WL_nil ?_|refine WQ_end ?_|refine zc7 ?_|refine CW_region ?_|refine zc1 ?_|refine zc2 ?_|refine zc3 ?_|refine zc4 ?_|refine CW_skip ?_|refine CW_ret ?_|refine CW_exit ?_|refine CW_block ?_|refine EX_seq ?_|refine EX_seq_ret ?_|refine EX_blk ?_|refine EX_blk_ret ?_|refine EX_loop_ret ?_|refine zx1 ?_|refine zx2 ?_|refine EX_seq_exit ?_|refine EX_loop_exit ?_|refine EX_mid_ret ?_|refine EX_mid_exit ?_|refine zr1 fun w hw => ?_|refine zr2 fun w hw => ?_|refine zr0 fun w hw => ?_|refine zr4 fun w hw => ?_|refine zr3 fun w hw => ?_|refine zg4 ?_|refine zg2 ?_|refine zg5 ?_|refine zp4 ?_|refine zp5 ?_|refine zc8 ?_|refine zp1 ?_|refine zp2 ?_|refine zm9 fun _ => ?_|refine zm2 fun _ => ?_|refine zm1 fun _ _ => ?_|refine za1 fun _ _ => ?_|refine za2 fun _ _ => ?_|refine zm4 ?_|refine zm5 ?_|refine zm6 ?_|refine zm7 fun _ => ?_|refine zm8 fun _ => ?_|refine zm3 fun _ => ?_|refine zcS ?_|refine zcT ?_|refine zp7 ?_|refine zp8 ?_|refine zq7 ?_|refine zq8 ?_|refine zc5 (fun _ => ?_) fun _ => ?_|refine zp3 (fun _ => ?_) fun _ => ?_|refine zp6 (fun _ => ?_) fun _ => ?_|refine zc6 (fun _ => ?_) fun _ => ?_))
              refine EX_retC3 rfl rfl rfl rfl rfl (by first | exact .here | exact .there .here | exact .there (.there .here) | exact .there (.there (.there .here)) | exact .there (.there (.there (.there .here))) | exact .there (.there (.there (.there (.there .here)))) | exact .there (.there (.there (.there (.there (.there .here)))))) rfl fun w hw => ?_
              exact ⟨by rw [hW]; rfl, hw.below⟩
          · rw [if_pos hn1] at hW
            obtain ⟨c1, c2⟩ := hb1 hn1
            (repeat' (first|refine zg1 ?_|refine WL_nil ?_|refine WQ_end ?_|refine zc7 ?_|refine CW_region ?_|refine zc1 ?_|refine zc2 ?_|refine zc3 ?_|refine zc4 ?_|refine CW_skip ?_|refine CW_ret ?_|refine CW_exit ?_|refine CW_block ?_|refine EX_seq ?_|refine EX_seq_ret ?_|refine EX_blk ?_|refine EX_blk_ret ?_|refine EX_loop_ret ?_|refine zx1 ?_|refine zx2 ?_|refine EX_seq_exit ?_|refine EX_loop_exit ?_|refine EX_mid_ret ?_|refine EX_mid_exit ?_|refine zr1 fun w hw => ?_|refine zr2 fun w hw => ?_|refine zr0 fun w hw => ?_|refine zr4 fun w hw => ?_|refine zr3 fun w hw => ?_|refine zg4 ?_|refine zg2 ?_|refine zg5 ?_|refine zp4 ?_|refine zp5 ?_|refine zc8 ?_|refine zp1 ?_|refine zp2 ?_|refine zm9 fun _ => ?_|refine zm2 fun _ => ?_|refine zm1 fun _ _ => ?_|refine za1 fun _ _ => ?_|refine za2 fun _ _ => ?_|refine zm4 ?_|refine zm5 ?_|refine zm6 ?_|refine zm7 fun _ => ?_|refine zm8 fun _ => ?_|refine zm3 fun _ => ?_|refine zcS ?_|refine zcT ?_|refine zp7 ?_|refine zp8 ?_|refine zq7 ?_|refine zq8 ?_|refine zc5 (fun _ => ?_) fun _ => ?_|refine zp3 (fun _ => ?_) fun _ => ?_|refine zp6 (fun _ => ?_) fun _ => ?_|refine zc6 (fun _ => ?_) fun _ => ?_))
            (apply WL_callV; rfl; rfl; rfl; (intro W hW; exact hS1 W))
            (repeat' (first|refine zg1 ?_|refine WL_nil ?_|refine WQ_end ?_|refine zc7 ?_|refine CW_region ?_|refine zc1 ?_|refine zc2 ?_|refine zc3 ?_|refine zc4 ?_|refine CW_skip ?_|refine CW_ret ?_|refine CW_exit ?_|refine CW_block ?_|refine EX_seq ?_|refine EX_seq_ret ?_|refine EX_blk ?_|refine EX_blk_ret ?_|refine EX_loop_ret ?_|refine zx1 ?_|refine zx2 ?_|refine EX_seq_exit ?_|refine EX_loop_exit ?_|refine EX_mid_ret ?_|refine EX_mid_exit ?_|refine zr1 fun w hw => ?_|refine zr2 fun w hw => ?_|refine zr0 fun w hw => ?_|refine zr4 fun w hw => ?_|refine zr3 fun w hw => ?_|refine zg4 ?_|refine zg2 ?_|refine zg5 ?_|refine zp4 ?_|refine zp5 ?_|refine zc8 ?_|refine zp1 ?_|refine zp2 ?_|refine zm9 fun _ => ?_|refine zm2 fun _ => ?_|refine zm1 fun _ _ => ?_|refine za1 fun _ _ => ?_|refine za2 fun _ _ => ?_|refine zm4 ?_|refine zm5 ?_|refine zm6 ?_|refine zm7 fun _ => ?_|refine zm8 fun _ => ?_|refine zm3 fun _ => ?_|refine zcS ?_|refine zcT ?_|refine zp7 ?_|refine zp8 ?_|refine zq7 ?_|refine zq8 ?_|refine zc5 (fun _ => ?_) fun _ => ?_|refine zp3 (fun _ => ?_) fun _ => ?_|refine zp6 (fun _ => ?_) fun _ => ?_|refine zc6 (fun _ => ?_) fun _ => ?_))
            refine EX_retC3 rfl rfl rfl rfl rfl (by first | exact .here | exact .there .here | exact .there (.there .here) | exact .there (.there (.there .here)) | exact .there (.there (.there (.there .here))) | exact .there (.there (.there (.there (.there .here)))) | exact .there (.there (.there (.there (.there (.there .here)))))) rfl fun w hw => ?_
            exact ⟨by rw [hW]; rfl, hw.below⟩
  · have hpos : 0 < ds.length := List.length_pos_iff.2 hds0
    have hW := wordF_num hneg (by rw [hrest]; exact hds) hds0
    have hall : ∀ d ∈ ds, isDigitB d = true := fun d hd => takeWhile_all isDigitB (s.drop (a + off)) d (by rw [hds]; exact hd)
    have hnum := whole_num neg ds hall
    have hdk : ∀ k, k < ds.length → s.getD (a + off + k) 0 = ds.getD k 0 := fun k hk => by
      have hp : ds <+: s.drop (a + off) := hds ▸ List.takeWhile_prefix _
      obtain ⟨t, ht⟩ := hp
      rw [← get_drop, ← ht, List.getD_eq_getElem?_getD, List.getElem?_append_left hk, ← List.getD_eq_getElem?_getD]
    (repeat' (first|refine zg1 ?_|refine WL_nil ?_|refine WQ_end ?_|refine zc7 ?_|refine CW_region ?_|refine zc1 ?_|refine zc2 ?_|refine zc3 ?_|refine zc4 ?_|refine CW_skip ?_|refine CW_ret ?_|refine CW_exit ?_|refine CW_block ?_|refine EX_seq ?_|refine EX_seq_ret ?_|refine EX_blk ?_|refine EX_blk_ret ?_|refine EX_loop_ret ?_|refine zx1 ?_|refine zx2 ?_|refine EX_seq_exit ?_|refine EX_loop_exit ?_|refine EX_mid_ret ?_|refine EX_mid_exit ?_|refine zr1 fun w hw => ?_|refine zr2 fun w hw => ?_|refine zr0 fun w hw => ?_|refine zr4 fun w hw => ?_|refine zr3 fun w hw => ?_|refine zg4 ?_|refine zg2 ?_|refine zg5 ?_|refine zp4 ?_|refine zp5 ?_|refine zc8 ?_|refine zp1 ?_|refine zp2 ?_|refine zm9 fun _ => ?_|refine zm2 fun _ => ?_|refine zm1 fun _ _ => ?_|refine za1 fun _ _ => ?_|refine za2 fun _ _ => ?_|refine zm4 ?_|refine zm5 ?_|refine zm6 ?_|refine zm7 fun _ => ?_|refine zm8 fun _ => ?_|refine zm3 fun _ => ?_|refine zcS ?_|refine zcT ?_|refine zp7 ?_|refine zp8 ?_|refine zq7 ?_|refine zq8 ?_|refine zc5 (fun _ => ?_) fun _ => ?_|refine zp3 (fun _ => ?_) fun _ => ?_|refine zp6 (fun _ => ?_) fun _ => ?_|refine zc6 (fun _ => ?_) fun _ => ?_))
    (apply WL_callV; rfl; rfl; rfl; (intro W hW; exact ref_whole s (a + off) ds neg (by omega) (by omega) hdk hall ((a + off + ds.length : Nat) : Int) (by omega) W))
    rw [hnum]
    rw [← hoff] at hW
    cases hv : numF neg ds with
    | none =>
      rw [hv] at hW
      dsimp only [wholeV]
      (repeat' (first|refine zg1 ?_|refine WL_nil ?_|refine WQ_end ?_|refine zc7 ?_|refine CW_region ?_|refine zc1 ?_|refine zc2 ?_|refine zc3 ?_|refine zc4 ?_|refine CW_skip ?_|refine CW_ret ?_|refine CW_exit ?_|refine CW_block ?_|refine EX_seq ?_|refine EX_seq_ret ?_|refine EX_blk ?_|refine EX_blk_ret ?_|refine EX_loop_ret ?_|refine zx1 ?_|refine zx2 ?_|refine EX_seq_exit ?_|refine EX_loop_exit ?_|refine EX_mid_ret ?_|refine EX_mid_exit ?_|refine zr1 fun w hw => ?_|refine zr2 fun w hw => ?_|refine zr0 fun w hw => ?_|refine zr4 fun w hw => ?_|refine zr3 fun w hw => ?_|refine zg4 ?_|refine zg2 ?_|refine zg5 ?_|refine zp4 ?_|refine zp5 ?_|refine zc8 ?_|refine zp1 ?_|refine zp2 ?_|refine zm9 fun _ => ?_|refine zm2 fun _ => ?_|refine zm1 fun _ _ => ?_|refine za1 fun _ _ => ?_|refine za2 fun _ _ => ?_|refine zm4 ?_|refine zm5 ?_|refine zm6 ?_|refine zm7 fun _ => ?_|refine zm8 fun _ => ?_|refine zm3 fun _ => ?_|refine zcS ?_|refine zcT ?_|refine zp7 ?_|refine zp8 ?_|refine zq7 ?_|refine zq8 ?_|refine zc5 (fun _ => ?_) fun _ => ?_|refine zp3 (fun _ => ?_) fun _ => ?_|refine zp6 (fun _ => ?_) fun _ => ?_|refine zc6 (fun _ => ?_) fun _ => ?_))
      refine EX_retC3 rfl rfl rfl rfl rfl (by first | exact .here | exact .there .here | exact .there (.there .here) | exact .there (.there (.there .here)) | exact .there (.there (.there (.there .here))) | exact .there (.there (.there (.there (.there .here)))) | exact .there (.there (.there (.there (.there (.there .here)))))) rfl fun w hw => ?_
      exact ⟨by rw [hW]; rfl, hw.below⟩
    | some v =>
      rw [hv] at hW
      dsimp only [wholeV]
      (repeat' (first|refine zg1 ?_|refine WL_nil ?_|refine WQ_end ?_|refine zc7 ?_|refine CW_region ?_|refine zc1 ?_|refine zc2 ?_|refine zc3 ?_|refine zc4 ?_|refine CW_skip ?_|refine CW_ret ?_|refine CW_exit ?_|refine CW_block ?_|refine EX_seq ?_|refine EX_seq_ret ?_|refine EX_blk ?_|refine EX_blk_ret ?_|refine EX_loop_ret ?_|refine zx1 ?_|refine zx2 ?_|refine EX_seq_exit ?_|refine EX_loop_exit ?_|refine EX_mid_ret ?_|refine EX_mid_exit ?_|refine zr1 fun w hw => ?_|refine zr2 fun w hw => ?_|refine zr0 fun w hw => ?_|refine zr4 fun w hw => ?_|refine zr3 fun w hw => ?_|refine zg4 ?_|refine zg2 ?_|refine zg5 ?_|refine zp4 ?_|refine zp5 ?_|refine zc8 ?_|refine zp1 ?_|refine zp2 ?_|refine zm9 fun _ => ?_|refine zm2 fun _ => ?_|refine zm1 fun _ _ => ?_|refine za1 fun _ _ => ?_|refine za2 fun _ _ => ?_|refine zm4 ?_|refine zm5 ?_|refine zm6 ?_|refine zm7 fun _ => ?_|refine zm8 fun _ => ?_|refine zm3 fun _ => ?_|refine zcS ?_|refine zcT ?_|refine zp7 ?_|refine zp8 ?_|refine zq7 ?_|refine zq8 ?_|refine zc5 (fun _ => ?_) fun _ => ?_|refine zp3 (fun _ => ?_) fun _ => ?_|refine zp6 (fun _ => ?_) fun _ => ?_|refine zc6 (fun _ => ?_) fun _ => ?_))
      refine EX_retC3 rfl rfl rfl rfl rfl (by first | exact .here | exact .there .here | exact .there (.there .here) | exact .there (.there (.there .here)) | exact .there (.there (.there (.there .here))) | exact .there (.there (.there (.there (.there .here)))) | exact .there (.there (.there (.there (.there (.there .here)))))) rfl fun w hw => ?_
      refine ⟨?_, hw.below⟩
      rw [hW]
      dsimp only [wordV]
      rw [if_pos rfl, show ((a + (off + ds.length) : Nat) : Int) = ((a + off + ds.length : Nat) : Int) by omega]
      rfl
end Go.Proofs.YtnnidacekljihaaGreatDoor
