/-
  ravelinlaw5.bare, ravelinsame.Tokens.
-/
import Derived.Test.YtnnidacekljihaaGreatDoorGo
import Derived.Test.YtnnidacekljihaaGreatDoorTokRow
import Derived.Test.YtnnidacekljihaaGreatDoorLex3
import Derived.Test.YtnnidacekljihaaGreatDoorBackPlain
namespace Go.Proofs.YtnnidacekljihaaGreatDoor
open Go.RowKit

theorem flat_get {α : Type} {enc : α → List Value} {sz j : Nat} {x : α} {v : Value} (hs : ∀ x, (enc x).length = sz) (hv : (enc x)[j]? = some v) : ∀ (l : List α) (i : Nat), l[i]? = some x → (l.flatMap enc)[i * sz + j]? = some v := by
  have hj : j < sz := by rw [← hs x]; exact (List.getElem?_eq_some_iff.1 hv).1
  intro l
  induction l with
  | nil => intro i h; simp at h
  | cons y l ih =>
    intro i h
    rw [List.flatMap_cons]
    cases i with
    | zero =>
      simp at h; subst h
      rw [Nat.zero_mul, Nat.zero_add, List.getElem?_append_left (by rw [hs]; exact hj)]; exact hv
    | succ i =>
      rw [List.getElem?_append_right (by rw [hs, Nat.add_mul]; omega), hs]
      rw [show (i + 1) * sz + j - sz = i * sz + j by rw [Nat.add_mul]; omega]
      exact ih i (by simpa using h)
theorem flat_len {α : Type} {enc : α → List Value} {sz : Nat} (hs : ∀ x, (enc x).length = sz) : ∀ l : List α, (l.flatMap enc).length = l.length * sz
  | [] => by simp
  | x :: l => by rw [List.flatMap_cons, List.length_append, hs, flat_len hs l, List.length_cons, Nat.add_mul]; omega
/-- a slice of the call's own, as a row to be read -/
theorem row_sl {α : Type} {enc : α → List Value} {sz : Nat} (hs : ∀ x, (enc x).length = sz) (h0 : 0 < sz) {w0 w : World} {F : List Nat} {m r : List HP} {e : TypeId} {n c : Nat} {p : Option Addr} {xs : List α} (hh : Holds w0 F m w) (hp : Pick m (sl e sz p n c (xs.flatMap enc)) r) :
    n = xs.length ∧ Row enc sz w.cell? p c xs := by
  have h := hh.slR hp
  have hn : n = xs.length := by
    have := h.1
    rw [flat_len hs] at this
    exact (Nat.eq_of_mul_eq_mul_right h0 this).symm
  refine ⟨hn, ?_⟩
  rcases h.2 with ⟨hv, h00⟩ | ⟨g, cap, cur, hv, _, hg, hnc, hcm, hcs, ht⟩
  · simp only [Value.slice.injEq] at hv
    obtain ⟨rfl, _, rfl⟩ := hv
    have : xs = [] := List.eq_nil_of_length_eq_zero (by omega)
    subst this
    exact Row.nil _ _ _
  · simp only [Value.slice.injEq] at hv
    obtain ⟨rfl, _, rfl⟩ := hv
    refine ⟨by omega, hcm, fun _ => rfl, fun i x hx j v hv => ?_⟩
    have h1 := h.cells (g := g) rfl (i * sz + j) v (flat_get hs hv xs i hx)
    unfold addrAt
    show w.cell? (((⟨g, 0, none⟩ : Addr).add (i * sz)).add j) = some v
    rw [Go.Deep.add_add]
    exact h1

set_option maxRecDepth 100000 in
theorem law_bare (p : Option Addr) (c : Nat) (ts : List Tok) (w : World) (hR : Row tokE 5 w.cell? p c ts) (hlen : ts.length ≤ 1099511627776) :
    Calls Tryz.prog 9 #[.slice p ts.length c] w fun e w' => ∃ x : Option Addr × Nat, True ∧ e = .returned (.slice x.1 ts.length x.2) ∧ Holds w [] [sl 29 5 x.1 ts.length x.2 ((ts.map bareT).flatMap tokE)] w' := by
  refine enterR (G := w.cell?) (args := [_]) (m := []) (Rd.sub_cell w) rfl Tryz.func9 rfl Tryz.ntmps9 (by simp) ?_
  (repeat' (first | (refine zg1 ?_) | (refine WL_nil ?_) | (refine WQ_end ?_) | (refine zc7 ?_) | (refine CW_region ?_) | (refine zc1 ?_) | (refine zc2 ?_) | (refine zc3 ?_) | (refine zc4 ?_) | (refine CW_skip ?_) | (refine CW_ret ?_) | (refine CW_exit ?_) | (refine CW_block ?_) | (refine EX_seq ?_) | (refine EX_seq_ret ?_) | (refine EX_blk ?_) | (refine EX_blk_ret ?_) | (refine EX_loop_ret ?_) | (refine zx1 ?_) | (refine zx2 ?_) | (refine EX_seq_exit ?_) | (refine EX_loop_exit ?_) | (refine EX_mid_ret ?_) | (refine EX_mid_exit ?_) | (refine zr1 fun w hw => ?_) | (refine zr2 fun w hw => ?_) | (refine zr0 fun w hw => ?_) | (refine zr4 fun w hw => ?_) | (refine zr3 fun w hw => ?_) | (refine zg4 ?_) | (refine zg2 ?_) | (refine zg5 ?_) | (refine zp4 ?_) | (refine zp5 ?_) | (refine zc8 ?_) | (refine zc9 ?_) | (refine zg3 ?_) | (refine zg6 ?_) | (refine WB_end ?_) | (refine zp1 ?_) | (refine zp2 ?_) | (refine zm9 fun _ => ?_) | (refine zm2 fun _ => ?_) | (refine zm1 fun _ _ => ?_) | (refine za1 fun _ _ => ?_) | (refine za2 fun _ _ => ?_) | (refine zm4 ?_) | (refine zm5 ?_) | (refine zm6 ?_) | (refine zm7 fun _ => ?_) | (refine zm8 fun _ => ?_) | (refine zm3 fun _ => ?_) | (refine isRet ?_; refine zr5 rfl rfl rfl fun w hw => ?_) | (refine isNor ?_; refine zr6 rfl rfl rfl fun w hw => ?_) | (refine EX_seq_panic ?_) | (refine EX_blk_panic ?_) | (refine EX_mid_panic ?_) | (refine EX_loop_panic ?_) | (refine isPan ?_; refine EX_body_panic rfl fun w hw => ?_) | (refine zpn ?_) | (refine zcS ?_) | (refine zcT ?_) | (refine zp7 ?_) | (refine zp8 ?_) | (refine zq7 ?_) | (refine zq8 ?_) | (refine zc5 (fun _ => ?_) fun _ => ?_) | (refine zp3 (fun _ => ?_) fun _ => ?_) | (refine zp6 (fun _ => ?_) fun _ => ?_) | (refine zc6 (fun _ => ?_) fun _ => ?_)))
  refine CW_ent (m' := [sl 29 5 none 0 0 [], ro w [] w.cell?]) (Ent.nilown (by repeat (first | exact Ent.nil | refine zn1 ?_))) ?_
  refine CW_loopK [(0,_)] (by repeat (first | exact Cov.nil | refine Cov.cons rfl (by first | rfl | (congr 1; omega) | assumption) ?_)) (fun x : Nat × Option Addr × Nat => [(4, .int .i64 x.1), (3, .slice x.2.1 x.1 x.2.2)]) (fun x => [sl 29 5 x.2.1 x.1 x.2.2 (((ts.take x.1).map bareT).flatMap tokE), ro w [] w.cell?]) (fun x => x.1 ≤ ts.length) (fun x => ts.length - x.1) (0, none, 0) (Nat.zero_le _) (by repeat (first | exact Cov.nil | refine Cov.cons rfl (by first | rfl | (congr 1; omega) | assumption) ?_)) Ent.refl ?_
  rintro ⟨k, q, cq⟩ hkl
  dsimp only at hkl ⊢
  by_cases hlt : k < ts.length
  · obtain ⟨t, hg⟩ : ∃ t, ts[k]? = some t := ⟨ts[k], by simp [hlt]⟩
    have htt : ((ts.take (k + 1)).map bareT).flatMap tokE = ((ts.take k).map bareT).flatMap tokE ++ tokE (bareT t) := by rw [List.take_add_one, hg]; simp
    (repeat' (first | (refine zg1 ?_) | (refine WL_nil ?_) | (refine WQ_end ?_) | (refine zc7 ?_) | (refine CW_region ?_) | (refine zc1 ?_) | (refine zc2 ?_) | (refine zc3 ?_) | (refine zc4 ?_) | (refine CW_skip ?_) | (refine CW_ret ?_) | (refine CW_exit ?_) | (refine CW_block ?_) | (refine EX_seq ?_) | (refine EX_seq_ret ?_) | (refine EX_blk ?_) | (refine EX_blk_ret ?_) | (refine EX_loop_ret ?_) | (refine zx1 ?_) | (refine zx2 ?_) | (refine EX_seq_exit ?_) | (refine EX_loop_exit ?_) | (refine EX_mid_ret ?_) | (refine EX_mid_exit ?_) | (refine zr1 fun w hw => ?_) | (refine zr2 fun w hw => ?_) | (refine zr0 fun w hw => ?_) | (refine zr4 fun w hw => ?_) | (refine zr3 fun w hw => ?_) | (refine zg4 ?_) | (refine zg2 ?_) | (refine zg5 ?_) | (refine zp4 ?_) | (refine zp5 ?_) | (refine zc8 ?_) | (refine zc9 ?_) | (refine zg3 ?_) | (refine zg6 ?_) | (refine WB_end ?_) | (refine zp1 ?_) | (refine zp2 ?_) | (refine zm9 fun _ => ?_) | (refine zm2 fun _ => ?_) | (refine zm1 fun _ _ => ?_) | (refine za1 fun _ _ => ?_) | (refine za2 fun _ _ => ?_) | (refine zm4 ?_) | (refine zm5 ?_) | (refine zm6 ?_) | (refine zm7 fun _ => ?_) | (refine zm8 fun _ => ?_) | (refine zm3 fun _ => ?_) | (refine isRet ?_; refine zr5 rfl rfl rfl fun w hw => ?_) | (refine isNor ?_; refine zr6 rfl rfl rfl fun w hw => ?_) | (refine EX_seq_panic ?_) | (refine EX_blk_panic ?_) | (refine EX_mid_panic ?_) | (refine EX_loop_panic ?_) | (refine isPan ?_; refine EX_body_panic rfl fun w hw => ?_) | (refine zpn ?_) | (refine zcS ?_) | (refine zcT ?_) | (refine zp7 ?_) | (refine zp8 ?_) | (refine zq7 ?_) | (refine zq8 ?_) | (refine zc5 (fun _ => ?_) fun _ => ?_) | (refine zp3 (fun _ => ?_) fun _ => ?_) | (refine zp6 (fun _ => ?_) fun _ => ?_) | (refine zc6 (fun _ => ?_) fun _ => ?_)))
    rename_i b1 b2 q2 c2
    refine EX_loop' (k + 1, q2, c2) ⟨(by repeat (first | exact Cov.nil | refine Cov.cons rfl (by first | rfl | (congr 1; omega) | assumption) ?_)), ?_, by dsimp only; omega, by dsimp only; omega⟩
    dsimp only
    rw [htt]
    exact (by repeat (first | exact Ent.nil | refine zn1 ?_))
  · have hkl : k = ts.length := by omega
    subst hkl
    (repeat' (first | (refine zg1 ?_) | (refine WL_nil ?_) | (refine WQ_end ?_) | (refine zc7 ?_) | (refine CW_region ?_) | (refine zc1 ?_) | (refine zc2 ?_) | (refine zc3 ?_) | (refine zc4 ?_) | (refine CW_skip ?_) | (refine CW_ret ?_) | (refine CW_exit ?_) | (refine CW_block ?_) | (refine EX_seq ?_) | (refine EX_seq_ret ?_) | (refine EX_blk ?_) | (refine EX_blk_ret ?_) | (refine EX_loop_ret ?_) | (refine zx1 ?_) | (refine zx2 ?_) | (refine EX_seq_exit ?_) | (refine EX_loop_exit ?_) | (refine EX_mid_ret ?_) | (refine EX_mid_exit ?_) | (refine zr1 fun w hw => ?_) | (refine zr2 fun w hw => ?_) | (refine zr0 fun w hw => ?_) | (refine zr4 fun w hw => ?_) | (refine zr3 fun w hw => ?_) | (refine zg4 ?_) | (refine zg2 ?_) | (refine zg5 ?_) | (refine zp4 ?_) | (refine zp5 ?_) | (refine zc8 ?_) | (refine zc9 ?_) | (refine zg3 ?_) | (refine zg6 ?_) | (refine WB_end ?_) | (refine zp1 ?_) | (refine zp2 ?_) | (refine zm9 fun _ => ?_) | (refine zm2 fun _ => ?_) | (refine zm1 fun _ _ => ?_) | (refine za1 fun _ _ => ?_) | (refine za2 fun _ _ => ?_) | (refine zm4 ?_) | (refine zm5 ?_) | (refine zm6 ?_) | (refine zm7 fun _ => ?_) | (refine zm8 fun _ => ?_) | (refine zm3 fun _ => ?_) | (refine isRet ?_; refine zr5 rfl rfl rfl fun w hw => ?_) | (refine isNor ?_; refine zr6 rfl rfl rfl fun w hw => ?_) | (refine EX_seq_panic ?_) | (refine EX_blk_panic ?_) | (refine EX_mid_panic ?_) | (refine EX_loop_panic ?_) | (refine isPan ?_; refine EX_body_panic rfl fun w hw => ?_) | (refine zpn ?_) | (refine zcS ?_) | (refine zcT ?_) | (refine zp7 ?_) | (refine zp8 ?_) | (refine zq7 ?_) | (refine zq8 ?_) | (refine zc5 (fun _ => ?_) fun _ => ?_) | (refine zp3 (fun _ => ?_) fun _ => ?_) | (refine zp6 (fun _ => ?_) fun _ => ?_) | (refine zc6 (fun _ => ?_) fun _ => ?_)))
    refine ⟨(q, cq), trivial, rfl, ?_⟩
    rw [List.take_length] at hw
    exact hw.ent (by repeat (first | exact Ent.nil | refine zn1 ?_))

set_option maxRecDepth 100000 in
theorem same_Tokens (p q : Option Addr) (c d : Nat) (xs : List Tok) (w : World) (hx : Row tokE 5 w.cell? p c xs) (hy : Row tokE 5 w.cell? q d xs) :
    Calls Tryz.prog 8 #[.slice p xs.length c, .slice q xs.length d] w fun e w' => e = .returned (.bool true) ∧ Below w.heap.size w w' := by
  have hlx := hx.len
  refine enterR (G := w.cell?) (args := [_, _]) (m := []) (Rd.sub_cell w) rfl Tryz.func8 rfl Tryz.ntmps8 (by simp) ?_
  (repeat' (first | (refine zg1 ?_) | (refine WL_nil ?_) | (refine WQ_end ?_) | (refine zc7 ?_) | (refine CW_region ?_) | (refine zc1 ?_) | (refine zc2 ?_) | (refine zc3 ?_) | (refine zc4 ?_) | (refine CW_skip ?_) | (refine CW_ret ?_) | (refine CW_exit ?_) | (refine CW_block ?_) | (refine EX_seq ?_) | (refine EX_seq_ret ?_) | (refine EX_blk ?_) | (refine EX_blk_ret ?_) | (refine EX_loop_ret ?_) | (refine zx1 ?_) | (refine zx2 ?_) | (refine EX_seq_exit ?_) | (refine EX_loop_exit ?_) | (refine EX_mid_ret ?_) | (refine EX_mid_exit ?_) | (refine zr1 fun w hw => ?_) | (refine zr2 fun w hw => ?_) | (refine zr0 fun w hw => ?_) | (refine zr4 fun w hw => ?_) | (refine zr3 fun w hw => ?_) | (refine zg4 ?_) | (refine zg2 ?_) | (refine zg5 ?_) | (refine zp4 ?_) | (refine zp5 ?_) | (refine zc8 ?_) | (refine zc9 ?_) | (refine zg3 ?_) | (refine zg6 ?_) | (refine WB_end ?_) | (refine zp1 ?_) | (refine zp2 ?_) | (refine zm9 fun _ => ?_) | (refine zm2 fun _ => ?_) | (refine zm1 fun _ _ => ?_) | (refine za1 fun _ _ => ?_) | (refine za2 fun _ _ => ?_) | (refine zm4 ?_) | (refine zm5 ?_) | (refine zm6 ?_) | (refine zm7 fun _ => ?_) | (refine zm8 fun _ => ?_) | (refine zm3 fun _ => ?_) | (refine isRet ?_; refine zr5 rfl rfl rfl fun w hw => ?_) | (refine isNor ?_; refine zr6 rfl rfl rfl fun w hw => ?_) | (refine EX_seq_panic ?_) | (refine EX_blk_panic ?_) | (refine EX_mid_panic ?_) | (refine EX_loop_panic ?_) | (refine isPan ?_; refine EX_body_panic rfl fun w hw => ?_) | (refine zpn ?_) | (refine zcS ?_) | (refine zcT ?_) | (refine zp7 ?_) | (refine zp8 ?_) | (refine zq7 ?_) | (refine zq8 ?_) | (refine zc5 (fun _ => ?_) fun _ => ?_) | (refine zp3 (fun _ => ?_) fun _ => ?_) | (refine zp6 (fun _ => ?_) fun _ => ?_) | (refine zc6 (fun _ => ?_) fun _ => ?_)))
  refine CW_loopK [(0,_),(1,_)] (by repeat (first | exact Cov.nil | refine Cov.cons rfl (by first | rfl | (congr 1; omega) | assumption) ?_)) (fun x : Nat => [(5, .int .i64 x)]) (fun _ => [ro w [] w.cell?]) (fun x => x ≤ xs.length) (fun x => xs.length - x) 0 (Nat.zero_le _) (by repeat (first | exact Cov.nil | refine Cov.cons rfl (by first | rfl | (congr 1; omega) | assumption) ?_)) (by repeat (first | exact Ent.nil | refine zn1 ?_)) ?_
  rintro k hk
  by_cases hlt : k < xs.length
  · obtain ⟨t, hg⟩ : ∃ t, xs[k]? = some t := ⟨xs[k], by simp [hlt]⟩
    (repeat' (first | (refine zg1 ?_) | (refine WL_nil ?_) | (refine WQ_end ?_) | (refine zc7 ?_) | (refine CW_region ?_) | (refine zc1 ?_) | (refine zc2 ?_) | (refine zc3 ?_) | (refine zc4 ?_) | (refine CW_skip ?_) | (refine CW_ret ?_) | (refine CW_exit ?_) | (refine CW_block ?_) | (refine EX_seq ?_) | (refine EX_seq_ret ?_) | (refine EX_blk ?_) | (refine EX_blk_ret ?_) | (refine EX_loop_ret ?_) | (refine zx1 ?_) | (refine zx2 ?_) | (refine EX_seq_exit ?_) | (refine EX_loop_exit ?_) | (refine EX_mid_ret ?_) | (refine EX_mid_exit ?_) | (refine zr1 fun w hw => ?_) | (refine zr2 fun w hw => ?_) | (refine zr0 fun w hw => ?_) | (refine zr4 fun w hw => ?_) | (refine zr3 fun w hw => ?_) | (refine zg4 ?_) | (refine zg2 ?_) | (refine zg5 ?_) | (refine zp4 ?_) | (refine zp5 ?_) | (refine zc8 ?_) | (refine zc9 ?_) | (refine zg3 ?_) | (refine zg6 ?_) | (refine WB_end ?_) | (refine zp1 ?_) | (refine zp2 ?_) | (refine zm9 fun _ => ?_) | (refine zm2 fun _ => ?_) | (refine zm1 fun _ _ => ?_) | (refine za1 fun _ _ => ?_) | (refine za2 fun _ _ => ?_) | (refine zm4 ?_) | (refine zm5 ?_) | (refine zm6 ?_) | (refine zm7 fun _ => ?_) | (refine zm8 fun _ => ?_) | (refine zm3 fun _ => ?_) | (refine isRet ?_; refine zr5 rfl rfl rfl fun w hw => ?_) | (refine isNor ?_; refine zr6 rfl rfl rfl fun w hw => ?_) | (refine EX_seq_panic ?_) | (refine EX_blk_panic ?_) | (refine EX_mid_panic ?_) | (refine EX_loop_panic ?_) | (refine isPan ?_; refine EX_body_panic rfl fun w hw => ?_) | (refine zpn ?_) | (refine zcS ?_) | (refine zcT ?_) | (refine zp7 ?_) | (refine zp8 ?_) | (refine zq7 ?_) | (refine zq8 ?_) | (refine zc5 (fun _ => ?_) fun _ => ?_) | (refine zp3 (fun _ => ?_) fun _ => ?_) | (refine zp6 (fun _ => ?_) fun _ => ?_) | (refine zc6 (fun _ => ?_) fun _ => ?_)))
    exact EX_loop' (k + 1) ⟨(by repeat (first | exact Cov.nil | refine Cov.cons rfl (by first | rfl | (congr 1; omega) | assumption) ?_)), (by repeat (first | exact Ent.nil | refine zn1 ?_)), by omega, by omega⟩
  · have hkl : k = xs.length := by omega
    subst hkl
    (repeat' (first | (refine zg1 ?_) | (refine WL_nil ?_) | (refine WQ_end ?_) | (refine zc7 ?_) | (refine CW_region ?_) | (refine zc1 ?_) | (refine zc2 ?_) | (refine zc3 ?_) | (refine zc4 ?_) | (refine CW_skip ?_) | (refine CW_ret ?_) | (refine CW_exit ?_) | (refine CW_block ?_) | (refine EX_seq ?_) | (refine EX_seq_ret ?_) | (refine EX_blk ?_) | (refine EX_blk_ret ?_) | (refine EX_loop_ret ?_) | (refine zx1 ?_) | (refine zx2 ?_) | (refine EX_seq_exit ?_) | (refine EX_loop_exit ?_) | (refine EX_mid_ret ?_) | (refine EX_mid_exit ?_) | (refine zr1 fun w hw => ?_) | (refine zr2 fun w hw => ?_) | (refine zr0 fun w hw => ?_) | (refine zr4 fun w hw => ?_) | (refine zr3 fun w hw => ?_) | (refine zg4 ?_) | (refine zg2 ?_) | (refine zg5 ?_) | (refine zp4 ?_) | (refine zp5 ?_) | (refine zc8 ?_) | (refine zc9 ?_) | (refine zg3 ?_) | (refine zg6 ?_) | (refine WB_end ?_) | (refine zp1 ?_) | (refine zp2 ?_) | (refine zm9 fun _ => ?_) | (refine zm2 fun _ => ?_) | (refine zm1 fun _ _ => ?_) | (refine za1 fun _ _ => ?_) | (refine za2 fun _ _ => ?_) | (refine zm4 ?_) | (refine zm5 ?_) | (refine zm6 ?_) | (refine zm7 fun _ => ?_) | (refine zm8 fun _ => ?_) | (refine zm3 fun _ => ?_) | (refine isRet ?_; refine zr5 rfl rfl rfl fun w hw => ?_) | (refine isNor ?_; refine zr6 rfl rfl rfl fun w hw => ?_) | (refine EX_seq_panic ?_) | (refine EX_blk_panic ?_) | (refine EX_mid_panic ?_) | (refine EX_loop_panic ?_) | (refine isPan ?_; refine EX_body_panic rfl fun w hw => ?_) | (refine zpn ?_) | (refine zcS ?_) | (refine zcT ?_) | (refine zp7 ?_) | (refine zp8 ?_) | (refine zq7 ?_) | (refine zq8 ?_) | (refine zc5 (fun _ => ?_) fun _ => ?_) | (refine zp3 (fun _ => ?_) fun _ => ?_) | (refine zp6 (fun _ => ?_) fun _ => ?_) | (refine zc6 (fun _ => ?_) fun _ => ?_)))
    exact ⟨rfl, hw.below⟩
end Go.Proofs.YtnnidacekljihaaGreatDoor
