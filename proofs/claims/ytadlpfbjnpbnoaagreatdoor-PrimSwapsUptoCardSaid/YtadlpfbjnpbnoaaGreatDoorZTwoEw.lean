/-
  The package each: two arrays, cell by cell.
  The package each: each.Two.
-/
import Derived.Test.YtadlpfbjnpbnoaaGreatDoorZGo
import Derived.Test.YtadlpfbjnpbnoaaGreatDoorZFit
namespace Go.Proofs.YtadlpfbjnpbnoaaGreatDoor
open Go.RowKit
/-! ## plain -/
structure Arr.Good (a : Arr) : Prop where
  rank : a.shape.length ≤ 6
  axes : ∀ n ∈ a.shape, 0 ≤ n ∧ n ≤ 4096
  cells : a.data.length ≤ 4096
  one : a.shape = [] → a.data.length = 1
  count : countF a.shape = ((a.data.length : Int), 0)
theorem Arr.good {a : Arr} (h : a.bad = 0) : a.Good := by
  obtain ⟨ch, s, d⟩ := a
  have h2 : (countF s).2 = 0 ∧ (d.length : Int) = (countF s).1 := by
    unfold Arr.bad checkF at h
    dsimp only at h
    split at h
    · exact absurd h (by assumption)
    · rename_i h1
      split at h
      · cases h
      · rename_i h2
        exact ⟨by omega, by omega⟩
  obtain ⟨h2, h3⟩ := h2
  have h6 : s.length ≤ 6 := by
    by_cases hl : 6 < s.length
    · unfold countF at h2
      rw [if_pos hl] at h2
      cases h2
    · omega
  have hb : badAxis s = 0 := by
    by_cases hb : badAxis s = 0
    · exact hb
    · unfold countF at h2
      rw [if_neg (by omega), if_pos hb] at h2
      exact absurd h2 hb
  have hax := badAxis_zero hb
  have hc : (countF s).1 ≤ 4096 := by
    unfold countF
    rw [if_neg (by omega), if_neg (by rw [hb]; simp)]
    split
    · decide
    · exact prodLe s 1 (by decide)
  refine ⟨h6, hax, by show d.length ≤ 4096; omega, fun hs => ?_, Prod.ext h3.symm h2⟩
  dsimp only at hs ⊢
  subst hs
  have : (countF []).1 = 1 := rfl
  omega
where
  prodLe : ∀ (s : List Int) (a : Int), a ≤ 4096 → (prodF a s).1 ≤ 4096
    | [], a, h => h
    | n :: r, a, h => by
      rw [prodF]
      split
      · exact (by decide : (0 : Int) ≤ 4096)
      · exact prodLe r _ (by omega)
def cellA (a : Arr) (i : Nat) : Int := if a.shape = [] then a.data.getD 0 0 else a.data.getD i 0
def fitE (a b : Arr) : Int := if a.shape = [] then 0 else if b.shape = [] then 0 else if a.shape.length ≠ b.shape.length then 3 else if a.shape ≠ b.shape then 4 else 0
def fitS (a b : Arr) : List Int := if a.shape = [] then b.shape else a.shape
def fitN (a b : Arr) : Nat := if a.shape = [] then b.data.length else a.data.length
def pairF (f : Int) (a b : Arr) (i : Nat) : Int × Int := if a.char ≠ b.char then (if f = 9 then (1, 0) else (0, 0)) else twoF f (cellA a i) (cellA b i)
def eachTwo (f : Int) (a b : Arr) : Int × Arr :=
  if (twoF f 0 1).2 ≠ 0 then ((twoF f 0 1).2, zeroA) else if a.bad ≠ 0 then (a.bad, zeroA) else if b.bad ≠ 0 then (b.bad, zeroA) else if fitE a b ≠ 0 then (fitE a b, zeroA)
  else if (f ≠ 8 ∧ f ≠ 9) ∧ (a.char = true ∨ b.char = true) then (6, zeroA) else fillF (fitS a b) (fitN a b) (pairF f a b)
/-! ## two arrays side by side -/
theorem arr2_build (a b : ArrM) (w : World) : (Instr.build 57 #[(0, arrV a), (1, arrV b)]).run Tryz.prog w = .ok (.agg #[.bool a.char, .slice a.shape.p a.shape.xs.length a.shape.c, .slice a.data.p a.data.xs.length a.data.c, .bool b.char, .slice b.shape.p b.shape.xs.length b.shape.c, .slice b.data.p b.data.xs.length b.data.c]) w := by kernel_rfl
theorem arr2_index0 (a b c d e f : Value) (w : World) : (Instr.index 57 (.agg #[a, b, c, d, e, f]) (.int .i64 0)).run Tryz.prog w = .ok (.agg #[a, b, c]) w := by kernel_rfl
theorem arr2_index1 (a b c d e f : Value) (w : World) : (Instr.index 57 (.agg #[a, b, c, d, e, f]) (.int .i64 1)).run Tryz.prog w = .ok (.agg #[d, e, f]) w := by kernel_rfl
section
variable {P : Program} {K : Cx} {ρ : Env} {m : List HP} {dst : Option Nat} {ty t : TypeId} {pos : String} {aft : Array Edge} {g : Option (Nat × Bool)} {x y : Operand}
theorem y_buildA {parts : List (Nat × Operand)} {pvs : List (Nat × Value)} {u : Value} (hx : partsV ρ parts = some pvs) (hr : ∀ w, (Instr.build t pvs.toArray).run P w = .ok u w) : Yi P K ρ m ⟨dst, .build t parts.toArray, ty, pos, aft, g⟩ u := by
  refine ⟨fun a w hf hm => ?_⟩
  have hpv := partsV_eval hf hx
  simp only [execOp, List.map_toArray, hpv]
  simp [hr]
theorem y_indexA {u v i : Value} (hx : opv ρ x = some v) (hy : opv ρ y = some i) (hr : ∀ w, (Instr.index t v i).run P w = .ok u w) : Yi P K ρ m ⟨dst, .index t x y, ty, pos, aft, g⟩ u := by
  refine ⟨fun a w hf hm => ?_⟩
  simp [execOp, hf.eval hx, hf.eval hy, hr]
end
/-! ## the pair at one place -/
/-- a function that tells a cell of an array, which lies in its box -/
def CellOf (f : FuncId) (a : ArrM) (n : Nat) : Prop := ∀ (b i : Nat) (G : Rd) (W : World), i < n → Rd.le G W.cell? → boxA G b a → ArrG G a →
  Calls Tryz.prog f #[.int .i64 (i : Int), ptrV b] W fun e w' => e = .returned (.int .i64 (cellA a.arr i)) ∧ Below W.heap.size W w'
set_option maxHeartbeats 8000000 in
set_option maxRecDepth 100000 in
theorem two_pair (f : Int) (a b : ArrM) (f1 f2 : FuncId) [F1 : FnT Tryz.prog f1] [F2 : FnT Tryz.prog f2] (ba bb bf bo bt c1 c2 i n : Nat) (hi : i < n) (h1 : CellOf f1 a n) (h2 : CellOf f2 b n) (G : Rd) (W : World) (hS : Rd.le G W.cell?)
    (ra : boxA G ba a) (rb : boxA G bb b) (rf : boxV G bf (.int .i64 f)) (ro1 : boxV G bo (.func (.func f1) #[] #[ptrV c1])) (ro2 : boxV G bt (.func (.func f2) #[] #[ptrV c2])) (rc1 : boxA G c1 a) (rc2 : boxA G c2 b) (ha : ArrG G a) (hb : ArrG G b) :
    Calls Tryz.prog 164 #[.int .i64 (i : Int), ptrV ba, ptrV bb, ptrV bf, ptrV bo, ptrV bt] W fun e w' => e = .returned (twoV (pairF f a.arr b.arr i)) ∧ Below W.heap.size W w' := by
  refine enterR (args := [_, _, _, _, _, _]) (m := []) (F := []) hS.sub rfl Tryz.func164 rfl Tryz.ntmps164 (by simp) ?_
  clear hS
  by_cases hc : a.char = b.char
  · have hp : pairF f a.arr b.arr i = twoF f (cellA a.arr i) (cellA b.arr i) := by
      unfold pairF
      rw [if_neg (by simpa [ArrM.arr] using hc)]
    rw [hp]
    ((repeat' (first|refine zza ?_|refine zc9 ?_|refine zzb fun w hw => ?_|refine zzh fun _ => ?_|refine zzi fun _ _ => ?_|refine zu1 ?_|refine zu2 ?_|refine zu3 ?_|refine zu4 fun _ => ?_|refine zzj (fun _ => ?_) fun _ => ?_)); (repeat' (refine CW_seq ?_; (repeat' (first|refine zza ?_|refine zc9 ?_|refine zzb fun w hw => ?_|refine zzh fun _ => ?_|refine zzi fun _ _ => ?_|refine zu1 ?_|refine zu2 ?_|refine zu3 ?_|refine zu4 fun _ => ?_|refine zzj (fun _ => ?_) fun _ => ?_)))))
    refine WQ_callY (S := F1) (cap := [ptrV c1]) rfl rfl rfl rfl (fun W hW => h1 c1 i G W hi (hW.le zpk) rc1 ha) ?_
    ((repeat' (first|refine zza ?_|refine zc9 ?_|refine zzb fun w hw => ?_|refine zzh fun _ => ?_|refine zzi fun _ _ => ?_|refine zu1 ?_|refine zu2 ?_|refine zu3 ?_|refine zu4 fun _ => ?_|refine zzj (fun _ => ?_) fun _ => ?_)); (repeat' (refine CW_seq ?_; (repeat' (first|refine zza ?_|refine zc9 ?_|refine zzb fun w hw => ?_|refine zzh fun _ => ?_|refine zzi fun _ _ => ?_|refine zu1 ?_|refine zu2 ?_|refine zu3 ?_|refine zu4 fun _ => ?_|refine zzj (fun _ => ?_) fun _ => ?_)))))
    refine WQ_callY (S := F2) (cap := [ptrV c2]) rfl rfl rfl rfl (fun W hW => h2 c2 i G W hi (hW.le zpk) rc2 hb) ?_
    ((repeat' (first|refine zza ?_|refine zc9 ?_|refine zzb fun w hw => ?_|refine zzh fun _ => ?_|refine zzi fun _ _ => ?_|refine zu1 ?_|refine zu2 ?_|refine zu3 ?_|refine zu4 fun _ => ?_|refine zzj (fun _ => ?_) fun _ => ?_)); (repeat' (refine CW_seq ?_; (repeat' (first|refine zza ?_|refine zc9 ?_|refine zzb fun w hw => ?_|refine zzh fun _ => ?_|refine zzi fun _ _ => ?_|refine zu1 ?_|refine zu2 ?_|refine zu3 ?_|refine zu4 fun _ => ?_|refine zzj (fun _ => ?_) fun _ => ?_)))))
    refine WQ_callV rfl rfl rfl (fun W hW => cell_Two _ _ _ W) ?_
    ((repeat' (first|refine zza ?_|refine zc9 ?_|refine zzb fun w hw => ?_|refine zzh fun _ => ?_|refine zzi fun _ _ => ?_|refine zu1 ?_|refine zu2 ?_|refine zu3 ?_|refine zu4 fun _ => ?_|refine zzj (fun _ => ?_) fun _ => ?_)); (repeat' (refine CW_seq ?_; (repeat' (first|refine zza ?_|refine zc9 ?_|refine zzb fun w hw => ?_|refine zzh fun _ => ?_|refine zzi fun _ _ => ?_|refine zu1 ?_|refine zu2 ?_|refine zu3 ?_|refine zu4 fun _ => ?_|refine zzj (fun _ => ?_) fun _ => ?_)))))
    exact ⟨rfl, hw.below⟩
  · have hp : pairF f a.arr b.arr i = if f = 9 then (1, 0) else (0, 0) := by
      unfold pairF
      rw [if_pos (by simpa [ArrM.arr] using hc)]
    rw [hp]
    by_cases h9 : f = 9
    · rw [if_pos h9]
      ((repeat' (first|refine zza ?_|refine zc9 ?_|refine zzb fun w hw => ?_|refine zzh fun _ => ?_|refine zzi fun _ _ => ?_|refine zu1 ?_|refine zu2 ?_|refine zu3 ?_|refine zu4 fun _ => ?_|refine zzj (fun _ => ?_) fun _ => ?_)); (repeat' (refine CW_seq ?_; (repeat' (first|refine zza ?_|refine zc9 ?_|refine zzb fun w hw => ?_|refine zzh fun _ => ?_|refine zzi fun _ _ => ?_|refine zu1 ?_|refine zu2 ?_|refine zu3 ?_|refine zu4 fun _ => ?_|refine zzj (fun _ => ?_) fun _ => ?_)))))
      exact ⟨rfl, hw.below⟩
    · rw [if_neg h9]
      ((repeat' (first|refine zza ?_|refine zc9 ?_|refine zzb fun w hw => ?_|refine zzh fun _ => ?_|refine zzi fun _ _ => ?_|refine zu1 ?_|refine zu2 ?_|refine zu3 ?_|refine zu4 fun _ => ?_|refine zzj (fun _ => ?_) fun _ => ?_)); (repeat' (refine CW_seq ?_; (repeat' (first|refine zza ?_|refine zc9 ?_|refine zzb fun w hw => ?_|refine zzh fun _ => ?_|refine zzi fun _ _ => ?_|refine zu1 ?_|refine zu2 ?_|refine zu3 ?_|refine zu4 fun _ => ?_|refine zzj (fun _ => ?_) fun _ => ?_)))))
      exact ⟨rfl, hw.below⟩
end Go.Proofs.YtadlpfbjnpbnoaaGreatDoor
namespace Go.Proofs.YtadlpfbjnpbnoaaGreatDoor
open Go.RowKit
theorem cell_plain (a : ArrM) (n : Nat) (hn : n ≤ a.data.xs.length) (h1 : a.shape.xs = [] → n ≤ 1) : CellOf 188 a n := fun b i G W hi hS hR hx => by
  have h := fit_plain1 a b i (by omega) G W hS.sub hR hx
  have e : cellA a.arr i = a.data.xs.getD i 0 := by
    unfold cellA
    by_cases h0 : a.arr.shape = []
    · rw [if_pos h0]
      have := h1 h0
      rw [show i = 0 by omega]
      rfl
    · rw [if_neg h0]
      rfl
  rw [e]
  exact h
theorem cell_single (a : ArrM) (n : Nat) (h0 : a.shape.xs = []) (h1 : 0 < a.data.xs.length) : CellOf 190 a n := fun b i G W hi hS hR hx => by
  have h := fit_single1 a b (i : Int) h1 G W hS.sub hR hx
  have e : cellA a.arr i = a.data.xs.getD 0 0 := by
    unfold cellA
    exact if_pos h0
  rw [e]
  exact h
theorem nil_len {α : Type} {l : List α} (h : l.length = 0) : l = [] := List.eq_nil_of_length_eq_zero h
theorem fit_ok (a b : ArrM) (ga : a.arr.Good) (gb : b.arr.Good) (hz : fitE a.arr b.arr = 0) : ∃ (f1 f2 : FuncId) (s : SlV Int), FnT Tryz.prog f1 ∧ FnT Tryz.prog f2 ∧ (s = a.shape ∨ s = b.shape) ∧ s.xs = fitS a.arr b.arr ∧ CellOf f1 a (fitN a.arr b.arr) ∧ CellOf f2 b (fitN a.arr b.arr) ∧
    ∀ G w, Rd.le G w.cell? → ArrG G a → ArrG G b → Calls Tryz.prog 162 #[arrV a, arrV b] w fun e w' => ∃ z : Nat × Nat, True ∧ e = .returned (.tuple #[.slice s.p s.xs.length s.c, .int .i64 (fitN a.arr b.arr : Int), .func (.func f1) #[] #[ptrV z.1], .func (.func f2) #[] #[ptrV z.2], .nilIface]) ∧ Holds w [] [boxB z.1 a, boxB z.2 b] w' := by
  unfold fitE at hz
  by_cases h0 : a.arr.shape = []
  · have e1 : fitN a.arr b.arr = b.data.xs.length := by unfold fitN; rw [if_pos h0]; rfl
    have e2 : fitS a.arr b.arr = b.shape.xs := by unfold fitS; rw [if_pos h0]; rfl
    have h1 : a.data.xs.length = 1 := ga.one h0
    rw [e1, e2]
    refine ⟨_, _, b.shape, inferInstance, inferInstance, .inr rfl, rfl, cell_single a _ h0 (by omega), cell_plain b _ (Nat.le_refl _) fun h => ?_, fun G w hS _ _ => fit_one a b G w hS (by show a.arr.shape.length = 0; rw [h0]; rfl)⟩
    have := gb.one h
    exact Nat.le_of_eq this
  · rw [if_neg h0] at hz
    have e1 : fitN a.arr b.arr = a.data.xs.length := by unfold fitN; rw [if_neg h0]; rfl
    have e2 : fitS a.arr b.arr = a.shape.xs := by unfold fitS; rw [if_neg h0]; rfl
    rw [e1, e2]
    by_cases h1 : b.arr.shape = []
    · have h2 : b.data.xs.length = 1 := gb.one h1
      exact ⟨_, _, a.shape, inferInstance, inferInstance, .inl rfl, rfl, cell_plain a _ (Nat.le_refl _) fun h => absurd h h0, cell_single b _ h1 (by omega), fun G w hS _ _ => fit_two a b G w hS (fun h => h0 (nil_len h)) (by show b.arr.shape.length = 0; rw [h1]; rfl)⟩
    · rw [if_neg h1] at hz
      have h3 : a.arr.shape = b.arr.shape := by
        by_cases h2 : a.arr.shape.length ≠ b.arr.shape.length
        · rw [if_pos h2] at hz; cases hz
        · rw [if_neg h2] at hz
          by_cases h3 : a.arr.shape ≠ b.arr.shape
          · rw [if_pos h3] at hz; cases hz
          · exact Decidable.not_not.1 h3
      have h4 : a.data.xs.length = b.data.xs.length := by
        have k1 := ga.count
        have k2 := gb.count
        rw [h3, k2] at k1
        have : ((b.arr.data.length : Nat) : Int) = (a.arr.data.length : Nat) := congrArg Prod.fst k1
        show a.arr.data.length = b.arr.data.length
        omega
      exact ⟨_, _, a.shape, inferInstance, inferInstance, .inl rfl, rfl, cell_plain a _ (Nat.le_refl _) fun h => absurd h h0, cell_plain b _ (by omega) fun h => absurd h h1, fun G w hS ha hb => fit_both a b G w hS ha hb (fun h => h1 (nil_len h)) h3⟩
theorem fit_bad (a b : ArrM) (hz : fitE a.arr b.arr ≠ 0) (G : Rd) (w : World) (hS : Rd.le G w.cell?) (ha : ArrG G a) (hb : ArrG G b) : Calls Tryz.prog 162 #[arrV a, arrV b] w fun e w' => e = .returned (.tuple #[.slice none 0 0, .int .i64 0, .nilFunc, .nilFunc, .iface 28 (.int .i64 (fitE a.arr b.arr))]) ∧ Below w.heap.size w w' := by
  unfold fitE at hz ⊢
  by_cases h0 : a.arr.shape = []
  · rw [if_pos h0] at hz
    exact absurd rfl hz
  · rw [if_neg h0] at hz ⊢
    by_cases h1 : b.arr.shape = []
    · rw [if_pos h1] at hz
      exact absurd rfl hz
    · rw [if_neg h1] at hz ⊢
      by_cases h2 : a.arr.shape.length ≠ b.arr.shape.length
      · rw [if_pos h2]
        exact fit_rank a b G w hS (fun h => h0 (nil_len h)) (fun h => h1 (nil_len h)) h2
      · rw [if_neg h2] at hz ⊢
        by_cases h3 : a.arr.shape ≠ b.arr.shape
        · rw [if_pos h3]
          exact fit_length a b G w hS ha hb (fun h => h1 (nil_len h)) (Decidable.not_not.1 h2) h3
        · rw [if_neg h3] at hz
          exact absurd rfl hz
end Go.Proofs.YtadlpfbjnpbnoaaGreatDoor
