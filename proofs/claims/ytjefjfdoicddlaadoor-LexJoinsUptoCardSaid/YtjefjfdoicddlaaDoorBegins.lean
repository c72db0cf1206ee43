/-
  ravelinref3.Begins; what lex.Read tells, in a reader.
-/
import Derived.Test.YtjefjfdoicddlaaDoorGo
import Derived.Test.YtjefjfdoicddlaaDoorTokSame
import Derived.Test.YtjefjfdoicddlaaDoorRead9
namespace Go.Proofs.YtjefjfdoicddlaaDoor
open Go.RowKit

theorem prefix_at (p l : List UInt8) (hl : p.length ≤ l.length) : List.isPrefixOf p l = true ↔ ∀ i, i < p.length → l.getD i 0 = p.getD i 0 := by
  induction p generalizing l with
  | nil => simp [List.isPrefixOf]
  | cons b p ih =>
    cases l with
    | nil => simp at hl
    | cons c l =>
      simp only [List.isPrefixOf, Bool.and_eq_true, beq_iff_eq]
      rw [ih l (by simpa using hl)]
      constructor
      · rintro ⟨h1, h2⟩ i hi
        cases i with
        | zero => simpa using h1.symm
        | succ i => simpa using h2 i (by simpa using hi)
      · intro h
        exact ⟨by simpa using (h 0 (by simp)).symm, fun i hi => by simpa using h (i + 1) (by simpa using hi)⟩
theorem prefix_short (p l : List UInt8) (hl : l.length < p.length) : List.isPrefixOf p l = false := by
  cases h : List.isPrefixOf p l with
  | false => rfl
  | true =>
    have := (List.isPrefixOf_iff_prefix.1 h).length_le
    omega

set_option maxRecDepth 100000 in
theorem ref_Begins (s : List UInt8) (a : Nat) (p : List UInt8) (w : World) (hs : s.length ≤ 1099511627776) (hp : p.length ≤ 1099511627776) (ha : a ≤ s.length) :
    Calls Tryd.prog 12 #[.string ⟨s.toArray⟩, .int .i64 (a : Int), .string ⟨p.toArray⟩] w fun e w' => e = .returned (.bool (p.isPrefixOf (s.drop a))) ∧ Below w.heap.size w w' := by
  have hdl : (s.drop a).length = s.length - a := by simp
  refine enter (args := [_, _, _]) (m := []) (F := []) Tryd.func12 rfl Tryd.ntmps12 (by simp) rfl ?_
  by_cases hsh : (s.length : Int) - (a : Int) < (p.length : Int)
  · (repeat' (first | (refine zg1 ?_) | (refine WL_nil ?_) | (refine WQ_end ?_) | (refine zc7 ?_) | (refine CW_region ?_) | (refine zc1 ?_) | (refine zc2 ?_) | (refine zc3 ?_) | (refine zc4 ?_) | (refine CW_skip ?_) | (refine CW_ret ?_) | (refine CW_exit ?_) | (refine CW_block ?_) | (refine EX_seq ?_) | (refine EX_seq_ret ?_) | (refine EX_blk ?_) | (refine EX_blk_ret ?_) | (refine EX_loop_ret ?_) | (refine zx1 ?_) | (refine zx2 ?_) | (refine EX_seq_exit ?_) | (refine EX_loop_exit ?_) | (refine EX_mid_ret ?_) | (refine EX_mid_exit ?_) | (refine zr1 fun w hw => ?_) | (refine zr2 fun w hw => ?_) | (refine zr0 fun w hw => ?_) | (refine zr4 fun w hw => ?_) | (refine zr3 fun w hw => ?_) | (refine zg4 ?_) | (refine zg2 ?_) | (refine zg5 ?_) | (refine zp4 ?_) | (refine zp5 ?_) | (refine zc8 ?_) | (refine zc9 ?_) | (refine zg3 ?_) | (refine zg6 ?_) | (refine WB_end ?_) | (refine zp1 ?_) | (refine zp2 ?_) | (refine zm9 fun _ => ?_) | (refine zm2 fun _ => ?_) | (refine zm1 fun _ _ => ?_) | (refine za1 fun _ _ => ?_) | (refine za2 fun _ _ => ?_) | (refine zm4 ?_) | (refine zm5 ?_) | (refine zm6 ?_) | (refine zm7 fun _ => ?_) | (refine zm8 fun _ => ?_) | (refine zm3 fun _ => ?_) | (refine isRet ?_; refine zr5 rfl rfl rfl fun w hw => ?_) | (refine isNor ?_; refine zr6 rfl rfl rfl fun w hw => ?_) | (refine EX_seq_panic ?_) | (refine EX_blk_panic ?_) | (refine EX_mid_panic ?_) | (refine EX_loop_panic ?_) | (refine isPan ?_; refine EX_body_panic rfl fun w hw => ?_) | (refine zpn ?_) | (refine zcS ?_) | (refine zcT ?_) | (refine zp7 ?_) | (refine zp8 ?_) | (refine zq7 ?_) | (refine zq8 ?_) | (refine zc5 (fun _ => ?_) fun _ => ?_) | (refine zp3 (fun _ => ?_) fun _ => ?_) | (refine zp6 (fun _ => ?_) fun _ => ?_) | (refine zc6 (fun _ => ?_) fun _ => ?_)))
    exact ⟨by rw [prefix_short _ _ (by omega)], hw.below⟩
  · (repeat' (first | (refine zg1 ?_) | (refine WL_nil ?_) | (refine WQ_end ?_) | (refine zc7 ?_) | (refine CW_region ?_) | (refine zc1 ?_) | (refine zc2 ?_) | (refine zc3 ?_) | (refine zc4 ?_) | (refine CW_skip ?_) | (refine CW_ret ?_) | (refine CW_exit ?_) | (refine CW_block ?_) | (refine EX_seq ?_) | (refine EX_seq_ret ?_) | (refine EX_blk ?_) | (refine EX_blk_ret ?_) | (refine EX_loop_ret ?_) | (refine zx1 ?_) | (refine zx2 ?_) | (refine EX_seq_exit ?_) | (refine EX_loop_exit ?_) | (refine EX_mid_ret ?_) | (refine EX_mid_exit ?_) | (refine zr1 fun w hw => ?_) | (refine zr2 fun w hw => ?_) | (refine zr0 fun w hw => ?_) | (refine zr4 fun w hw => ?_) | (refine zr3 fun w hw => ?_) | (refine zg4 ?_) | (refine zg2 ?_) | (refine zg5 ?_) | (refine zp4 ?_) | (refine zp5 ?_) | (refine zc8 ?_) | (refine zc9 ?_) | (refine zg3 ?_) | (refine zg6 ?_) | (refine WB_end ?_) | (refine zp1 ?_) | (refine zp2 ?_) | (refine zm9 fun _ => ?_) | (refine zm2 fun _ => ?_) | (refine zm1 fun _ _ => ?_) | (refine za1 fun _ _ => ?_) | (refine za2 fun _ _ => ?_) | (refine zm4 ?_) | (refine zm5 ?_) | (refine zm6 ?_) | (refine zm7 fun _ => ?_) | (refine zm8 fun _ => ?_) | (refine zm3 fun _ => ?_) | (refine isRet ?_; refine zr5 rfl rfl rfl fun w hw => ?_) | (refine isNor ?_; refine zr6 rfl rfl rfl fun w hw => ?_) | (refine EX_seq_panic ?_) | (refine EX_blk_panic ?_) | (refine EX_mid_panic ?_) | (refine EX_loop_panic ?_) | (refine isPan ?_; refine EX_body_panic rfl fun w hw => ?_) | (refine zpn ?_) | (refine zcS ?_) | (refine zcT ?_) | (refine zp7 ?_) | (refine zp8 ?_) | (refine zq7 ?_) | (refine zq8 ?_) | (refine zc5 (fun _ => ?_) fun _ => ?_) | (refine zp3 (fun _ => ?_) fun _ => ?_) | (refine zp6 (fun _ => ?_) fun _ => ?_) | (refine zc6 (fun _ => ?_) fun _ => ?_)))
    refine CW_loopP [(0,_),(1,_),(2,_)] (by repeat (first | exact Cov.nil | refine Cov.cons rfl (by first | rfl | (congr 1; omega) | assumption) ?_)) (fun x : Nat => [(7, .int .i64 x)]) (fun x => x ≤ p.length ∧ ∀ i, i < x → (s.drop a).getD i 0 = p.getD i 0) (fun x => p.length - x) 0 ⟨Nat.zero_le _, fun i h => by omega⟩ (by repeat (first | exact Cov.nil | refine Cov.cons rfl (by first | rfl | (congr 1; omega) | assumption) ?_)) ?_
    rintro k ⟨hk, hz⟩
    by_cases hlt : k < p.length
    · have hgd : (s.drop a).getD k 0 = s.getD (a + k) 0 := by simp [List.getD_eq_getElem?_getD, List.getElem?_drop]
      by_cases hc : s.getD (a + k) 0 = p.getD k 0
      · have hcI : ¬ (((s.getD (a + k) 0).toNat : Int) ≠ ((p.getD k 0).toNat : Int)) := by rw [hc]; simp
        (repeat' (first | (refine zg1 ?_) | (refine WL_nil ?_) | (refine WQ_end ?_) | (refine zc7 ?_) | (refine CW_region ?_) | (refine zc1 ?_) | (refine zc2 ?_) | (refine zc3 ?_) | (refine zc4 ?_) | (refine CW_skip ?_) | (refine CW_ret ?_) | (refine CW_exit ?_) | (refine CW_block ?_) | (refine EX_seq ?_) | (refine EX_seq_ret ?_) | (refine EX_blk ?_) | (refine EX_blk_ret ?_) | (refine EX_loop_ret ?_) | (refine zx1 ?_) | (refine zx2 ?_) | (refine EX_seq_exit ?_) | (refine EX_loop_exit ?_) | (refine EX_mid_ret ?_) | (refine EX_mid_exit ?_) | (refine zr1 fun w hw => ?_) | (refine zr2 fun w hw => ?_) | (refine zr0 fun w hw => ?_) | (refine zr4 fun w hw => ?_) | (refine zr3 fun w hw => ?_) | (refine zg4 ?_) | (refine zg2 ?_) | (refine zg5 ?_) | (refine zp4 ?_) | (refine zp5 ?_) | (refine zc8 ?_) | (refine zc9 ?_) | (refine zg3 ?_) | (refine zg6 ?_) | (refine WB_end ?_) | (refine zp1 ?_) | (refine zp2 ?_) | (refine zm9 fun _ => ?_) | (refine zm2 fun _ => ?_) | (refine zm1 fun _ _ => ?_) | (refine za1 fun _ _ => ?_) | (refine za2 fun _ _ => ?_) | (refine zm4 ?_) | (refine zm5 ?_) | (refine zm6 ?_) | (refine zm7 fun _ => ?_) | (refine zm8 fun _ => ?_) | (refine zm3 fun _ => ?_) | (refine isRet ?_; refine zr5 rfl rfl rfl fun w hw => ?_) | (refine isNor ?_; refine zr6 rfl rfl rfl fun w hw => ?_) | (refine EX_seq_panic ?_) | (refine EX_blk_panic ?_) | (refine EX_mid_panic ?_) | (refine EX_loop_panic ?_) | (refine isPan ?_; refine EX_body_panic rfl fun w hw => ?_) | (refine zpn ?_) | (refine zcS ?_) | (refine zcT ?_) | (refine zp7 ?_) | (refine zp8 ?_) | (refine zq7 ?_) | (refine zq8 ?_) | (refine zc5 (fun _ => ?_) fun _ => ?_) | (refine zp3 (fun _ => ?_) fun _ => ?_) | (refine zp6 (fun _ => ?_) fun _ => ?_) | (refine zc6 (fun _ => ?_) fun _ => ?_)))
        refine EX_loop' (k + 1) ⟨(by repeat (first | exact Cov.nil | refine Cov.cons rfl (by first | rfl | (congr 1; omega) | assumption) ?_)), (by repeat (first | exact Ent.nil | refine zn1 ?_)), by omega, by omega, fun i hi => ?_⟩
        by_cases e : i = k
        · subst e; rw [hgd]; exact hc
        · exact hz i (by omega)
      · have hcI : ((s.getD (a + k) 0).toNat : Int) ≠ ((p.getD k 0).toNat : Int) := fun e => hc (UInt8.toNat.inj (by omega))
        (repeat' (first | (refine zg1 ?_) | (refine WL_nil ?_) | (refine WQ_end ?_) | (refine zc7 ?_) | (refine CW_region ?_) | (refine zc1 ?_) | (refine zc2 ?_) | (refine zc3 ?_) | (refine zc4 ?_) | (refine CW_skip ?_) | (refine CW_ret ?_) | (refine CW_exit ?_) | (refine CW_block ?_) | (refine EX_seq ?_) | (refine EX_seq_ret ?_) | (refine EX_blk ?_) | (refine EX_blk_ret ?_) | (refine EX_loop_ret ?_) | (refine zx1 ?_) | (refine zx2 ?_) | (refine EX_seq_exit ?_) | (refine EX_loop_exit ?_) | (refine EX_mid_ret ?_) | (refine EX_mid_exit ?_) | (refine zr1 fun w hw => ?_) | (refine zr2 fun w hw => ?_) | (refine zr0 fun w hw => ?_) | (refine zr4 fun w hw => ?_) | (refine zr3 fun w hw => ?_) | (refine zg4 ?_) | (refine zg2 ?_) | (refine zg5 ?_) | (refine zp4 ?_) | (refine zp5 ?_) | (refine zc8 ?_) | (refine zc9 ?_) | (refine zg3 ?_) | (refine zg6 ?_) | (refine WB_end ?_) | (refine zp1 ?_) | (refine zp2 ?_) | (refine zm9 fun _ => ?_) | (refine zm2 fun _ => ?_) | (refine zm1 fun _ _ => ?_) | (refine za1 fun _ _ => ?_) | (refine za2 fun _ _ => ?_) | (refine zm4 ?_) | (refine zm5 ?_) | (refine zm6 ?_) | (refine zm7 fun _ => ?_) | (refine zm8 fun _ => ?_) | (refine zm3 fun _ => ?_) | (refine isRet ?_; refine zr5 rfl rfl rfl fun w hw => ?_) | (refine isNor ?_; refine zr6 rfl rfl rfl fun w hw => ?_) | (refine EX_seq_panic ?_) | (refine EX_blk_panic ?_) | (refine EX_mid_panic ?_) | (refine EX_loop_panic ?_) | (refine isPan ?_; refine EX_body_panic rfl fun w hw => ?_) | (refine zpn ?_) | (refine zcS ?_) | (refine zcT ?_) | (refine zp7 ?_) | (refine zp8 ?_) | (refine zq7 ?_) | (refine zq8 ?_) | (refine zc5 (fun _ => ?_) fun _ => ?_) | (refine zp3 (fun _ => ?_) fun _ => ?_) | (refine zp6 (fun _ => ?_) fun _ => ?_) | (refine zc6 (fun _ => ?_) fun _ => ?_)))
        have hf : List.isPrefixOf p (s.drop a) = false := by
          cases h : List.isPrefixOf p (s.drop a) with
          | false => rfl
          | true => exact absurd ((prefix_at _ _ (by omega)).1 h k hlt) (by rw [hgd]; exact hc)
        exact ⟨by rw [hf], hw.below⟩
    · have hkl : k = p.length := by omega
      subst hkl
      (repeat' (first | (refine zg1 ?_) | (refine WL_nil ?_) | (refine WQ_end ?_) | (refine zc7 ?_) | (refine CW_region ?_) | (refine zc1 ?_) | (refine zc2 ?_) | (refine zc3 ?_) | (refine zc4 ?_) | (refine CW_skip ?_) | (refine CW_ret ?_) | (refine CW_exit ?_) | (refine CW_block ?_) | (refine EX_seq ?_) | (refine EX_seq_ret ?_) | (refine EX_blk ?_) | (refine EX_blk_ret ?_) | (refine EX_loop_ret ?_) | (refine zx1 ?_) | (refine zx2 ?_) | (refine EX_seq_exit ?_) | (refine EX_loop_exit ?_) | (refine EX_mid_ret ?_) | (refine EX_mid_exit ?_) | (refine zr1 fun w hw => ?_) | (refine zr2 fun w hw => ?_) | (refine zr0 fun w hw => ?_) | (refine zr4 fun w hw => ?_) | (refine zr3 fun w hw => ?_) | (refine zg4 ?_) | (refine zg2 ?_) | (refine zg5 ?_) | (refine zp4 ?_) | (refine zp5 ?_) | (refine zc8 ?_) | (refine zc9 ?_) | (refine zg3 ?_) | (refine zg6 ?_) | (refine WB_end ?_) | (refine zp1 ?_) | (refine zp2 ?_) | (refine zm9 fun _ => ?_) | (refine zm2 fun _ => ?_) | (refine zm1 fun _ _ => ?_) | (refine za1 fun _ _ => ?_) | (refine za2 fun _ _ => ?_) | (refine zm4 ?_) | (refine zm5 ?_) | (refine zm6 ?_) | (refine zm7 fun _ => ?_) | (refine zm8 fun _ => ?_) | (refine zm3 fun _ => ?_) | (refine isRet ?_; refine zr5 rfl rfl rfl fun w hw => ?_) | (refine isNor ?_; refine zr6 rfl rfl rfl fun w hw => ?_) | (refine EX_seq_panic ?_) | (refine EX_blk_panic ?_) | (refine EX_mid_panic ?_) | (refine EX_loop_panic ?_) | (refine isPan ?_; refine EX_body_panic rfl fun w hw => ?_) | (refine zpn ?_) | (refine zcS ?_) | (refine zcT ?_) | (refine zp7 ?_) | (refine zp8 ?_) | (refine zq7 ?_) | (refine zq8 ?_) | (refine zc5 (fun _ => ?_) fun _ => ?_) | (refine zp3 (fun _ => ?_) fun _ => ?_) | (refine zp6 (fun _ => ?_) fun _ => ?_) | (refine zc6 (fun _ => ?_) fun _ => ?_)))
      exact ⟨by rw [(prefix_at _ _ (by omega)).2 hz], hw.below⟩

/-! ## what Read tells, to be read -/
theorem row_fresh {α : Type} {enc : α → List Value} {sz : Nat} (hs : ∀ x, (enc x).length = sz) (h0 : 0 < sz) {w w' : World} {e : TypeId} {n c : Nat} {p : Option Addr} {xs : List α} (hh : Holds w [] [sl e sz p n c (xs.flatMap enc)] w') {G' : Rd} (hG : ∀ a v, w'.cell? a = some v → w.heap.size ≤ a.block → G' a = some v) :
    Row enc sz G' p c xs := by
  have hR := (row_sl hs h0 hh .here).2
  refine ⟨hR.le, hR.max, hR.some', fun i x hx j v hv => ?_⟩
  have h1 := hR.cell i x hx j v hv
  refine hG _ _ h1 ?_
  obtain ⟨fp, ⟨f1, f2, rfl, ⟨hf, hown⟩, _, _⟩, hF⟩ := hh.own
  rcases hown.2 with ⟨hv, h00⟩ | ⟨g, cap, cur, hv, _⟩
  · have hn : n = xs.length := (row_sl hs h0 hh .here).1
    have : xs = [] := List.eq_nil_of_length_eq_zero (by omega)
    subst this
    simp at hx
  · simp only [Value.slice.injEq] at hv
    obtain ⟨rfl, _, rfl⟩ := hv
    have hb : ((addrAt (some ⟨g, 0, none⟩) (i * sz)).add j).block = g := by
      unfold addrAt
      show (((⟨g, 0, none⟩ : Addr).add (i * sz)).add j).block = g
      rw [Go.Deep.add_add]
      unfold Addr.add
      split <;> rfl
    rw [hb]
    by_cases hlt : g < w.heap.size
    · have := hF g (List.mem_append.2 (.inl (by rw [hf]; simp [blkOf]))) hlt
      cases this
    · omega
theorem read_R {src : List UInt8} {a : Int} {us : List Tok} (n : Nat) (hn : us.length = n) (h : readL src = (0, a, us)) (hl : src.length ≤ 1099511627776) (G : Rd) (hG : LexG G) (w : World) (fp : List Nat) (hm : Own [] fp w) (hs : Rd.sub G fp w) :
    Calls Tryd.prog 11 #[.string ⟨src.toArray⟩] w fun e w' => ∃ z : Rd × Option Addr × Nat, Row tokE 5 z.1 z.2.1 z.2.2 us ∧ e = .returned (.tuple #[.slice z.2.1 n z.2.2, .int .i64 a, .nilIface]) ∧ Rd.grow w G z.1 ∧ Holds w fp (ro w fp z.1 :: []) w' :=
  (lex_Read src G hG w (fun a v e => ⟨(hs a v e).1, by simp⟩) hl).mono fun e w' ⟨p, n', c, h1, h2, h3⟩ => by
    rw [h] at h1 h2 h3
    dsimp only at h1 h2 h3
    have hh : Holds w fp [ro w fp G] w := Holds.start ⟨[], fp, rfl, ⟨by simp, fun a v e => .inr ⟨cell_lt (hs a v e).1, (hs a v e).2, (hs a v e).1⟩⟩, hm, by simp⟩
    obtain ⟨G', g1, g2, g3⟩ := hh.fresh h3.below
    refine ⟨(G', p, c), row_fresh (enc := tokE) (sz := 5) (fun _ => rfl) (by omega) h3 g2, ?_, g1, g3⟩
    rw [h1, errV_zero, h2, hn]
theorem read_any (src : List UInt8) (hl : src.length ≤ 1099511627776) (G : Rd) (hG : LexG G) (w : World) (hs : Rd.sub G [] w) :
    Calls Tryd.prog 11 #[.string ⟨src.toArray⟩] w fun e w' => ∃ z : Option Addr × Nat × Nat, True ∧ e = .returned (.tuple #[.slice z.1 z.2.1 z.2.2, .int .i64 (readL src).2.1, errV 30 (readL src).1]) ∧ Holds w [] [] w' :=
  (lex_Read src G hG w hs hl).mono fun _ _ ⟨p, n', c, h1, _, h3⟩ => ⟨(p, n', c), trivial, h1, h3.ent Ent.nil⟩
theorem read_bad {src : List UInt8} {x a : Int} {us : List Tok} (hx : x ≠ 0) (h : readL src = (x, a, us)) (hl : src.length ≤ 1099511627776) (G : Rd) (hG : LexG G) (w : World) (hs : Rd.sub G [] w) :
    Calls Tryd.prog 11 #[.string ⟨src.toArray⟩] w fun e w' => ∃ z : Option Addr × Nat × Nat, True ∧ e = .returned (.tuple #[.slice z.1 z.2.1 z.2.2, .int .i64 a, .iface 30 (.int .i64 x)]) ∧ Holds w [] [] w' := by
  have := read_any src hl G hG w hs
  rw [h, errV_ne hx] at this
  exact this
theorem LexG.mono {G G' : Rd} (h : LexG G) (hl : Rd.le G G') : LexG G' :=
  ⟨fun c hc => hl _ _ (h.first c hc), fun i hi => ⟨hl _ _ (h.acc i hi).1, hl _ _ (h.acc i hi).2⟩, let ⟨m, hm⟩ := h.maxl; ⟨m, hl _ _ hm⟩, let ⟨a, b, hm⟩ := h.range; ⟨a, b, hl _ _ hm⟩⟩
end Go.Proofs.YtjefjfdoicddlaaDoor
