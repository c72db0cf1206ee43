/-
  The package each: two arrays, cell by cell.
  The packages arr and prim: what is told of arrays without making new ones; lists again and again.
-/
import Derived.Test.YtllgkdkjcbohcaaGreatDoorZGo
import Derived.Test.YtllgkdkjcbohcaaGreatDoorZFit
namespace Go.Proofs.YtllgkdkjcbohcaaGreatDoor
open Go.RowKit
/-! ## plain -/
structure Arr.Good (a : Arr) : Prop where
  rank : a.shape.length ≤ 6
  axes : ∀ n ∈ a.shape, 0 ≤ n ∧ n ≤ 4096
  cells : a.data.length ≤ 4096
  one : a.shape = [] → a.data.length = 1
  count : countF a.shape = ((a.data.length : Int), 0)
theorem Arr.good {a : Arr} (h : a.bad = 0) : a.Good := by
  obtain ⟨ch, s, d⟩ := a
  have h2 : (countF s).2 = 0 ∧ (d.length : Int) = (countF s).1 := by
    unfold Arr.bad checkF at h
    dsimp only at h
    split at h
    · exact absurd h (by assumption)
    · rename_i h1
      split at h
      · cases h
      · rename_i h2
        exact ⟨by omega, by omega⟩
  obtain ⟨h2, h3⟩ := h2
  have h6 : s.length ≤ 6 := by
    by_cases hl : 6 < s.length
    · unfold countF at h2
      rw [if_pos hl] at h2
      cases h2
    · omega
  have hb : badAxis s = 0 := by
    by_cases hb : badAxis s = 0
    · exact hb
    · unfold countF at h2
      rw [if_neg (by omega), if_pos hb] at h2
      exact absurd h2 hb
  have hax := badAxis_zero hb
  have hc : (countF s).1 ≤ 4096 := by
    unfold countF
    rw [if_neg (by omega), if_neg (by rw [hb]; simp)]
    split
    · decide
    · exact prodLe s 1 (by decide)
  refine ⟨h6, hax, by show d.length ≤ 4096; omega, fun hs => ?_, Prod.ext h3.symm h2⟩
  dsimp only at hs ⊢
  subst hs
  have : (countF []).1 = 1 := rfl
  omega
where
  prodLe : ∀ (s : List Int) (a : Int), a ≤ 4096 → (prodF a s).1 ≤ 4096
    | [], a, h => h
    | n :: r, a, h => by
      rw [prodF]
      split
      · exact (by decide : (0 : Int) ≤ 4096)
      · exact prodLe r _ (by omega)
def cellA (a : Arr) (i : Nat) : Int := if a.shape = [] then a.data.getD 0 0 else a.data.getD i 0
def fitE (a b : Arr) : Int := if a.shape = [] then 0 else if b.shape = [] then 0 else if a.shape.length ≠ b.shape.length then 3 else if a.shape ≠ b.shape then 4 else 0
def fitS (a b : Arr) : List Int := if a.shape = [] then b.shape else a.shape
def fitN (a b : Arr) : Nat := if a.shape = [] then b.data.length else a.data.length
def pairF (f : Int) (a b : Arr) (i : Nat) : Int × Int := if a.char ≠ b.char then (if f = 9 then (1, 0) else (0, 0)) else twoF f (cellA a i) (cellA b i)
def eachTwo (f : Int) (a b : Arr) : Int × Arr :=
  if (twoF f 0 1).2 ≠ 0 then ((twoF f 0 1).2, zeroA) else if a.bad ≠ 0 then (a.bad, zeroA) else if b.bad ≠ 0 then (b.bad, zeroA) else if fitE a b ≠ 0 then (fitE a b, zeroA)
  else if (f ≠ 8 ∧ f ≠ 9) ∧ (a.char = true ∨ b.char = true) then (6, zeroA) else fillF (fitS a b) (fitN a b) (pairF f a b)
/-! ## two arrays side by side -/
theorem arr2_build (a b : ArrM) (w : World) : (Instr.build 153 #[(0, arrV a), (1, arrV b)]).run Tryz.prog w = .ok (.agg #[.bool a.char, .slice a.shape.p a.shape.xs.length a.shape.c, .slice a.data.p a.data.xs.length a.data.c, .bool b.char, .slice b.shape.p b.shape.xs.length b.shape.c, .slice b.data.p b.data.xs.length b.data.c]) w := by kernel_rfl
theorem arr2_index0 (a b c d e f : Value) (w : World) : (Instr.index 153 (.agg #[a, b, c, d, e, f]) (.int .i64 0)).run Tryz.prog w = .ok (.agg #[a, b, c]) w := by kernel_rfl
theorem arr2_index1 (a b c d e f : Value) (w : World) : (Instr.index 153 (.agg #[a, b, c, d, e, f]) (.int .i64 1)).run Tryz.prog w = .ok (.agg #[d, e, f]) w := by kernel_rfl
section
variable {P : Program} {K : Cx} {ρ : Env} {m : List HP} {dst : Option Nat} {ty t : TypeId} {pos : String} {aft : Array Edge} {g : Option (Nat × Bool)} {x y : Operand}
theorem y_buildA {parts : List (Nat × Operand)} {pvs : List (Nat × Value)} {u : Value} (hx : partsV ρ parts = some pvs) (hr : ∀ w, (Instr.build t pvs.toArray).run P w = .ok u w) : Yi P K ρ m ⟨dst, .build t parts.toArray, ty, pos, aft, g⟩ u := by
  refine ⟨fun a w hf hm => ?_⟩
  have hpv := partsV_eval hf hx
  simp only [execOp, List.map_toArray, hpv]
  simp [hr]
theorem y_indexA {u v i : Value} (hx : opv ρ x = some v) (hy : opv ρ y = some i) (hr : ∀ w, (Instr.index t v i).run P w = .ok u w) : Yi P K ρ m ⟨dst, .index t x y, ty, pos, aft, g⟩ u := by
  refine ⟨fun a w hf hm => ?_⟩
  simp [execOp, hf.eval hx, hf.eval hy, hr]
end
/-! ## the pair at one place -/
/-- a function that tells a cell of an array, which lies in its box -/
def CellOf (f : FuncId) (a : ArrM) (n : Nat) : Prop := ∀ (b i : Nat) (G : Rd) (W : World), i < n → Rd.le G W.cell? → boxA G b a → ArrG G a →
  Calls Tryz.prog f #[.int .i64 (i : Int), ptrV b] W fun e w' => e = .returned (.int .i64 (cellA a.arr i)) ∧ Below W.heap.size W w'
set_option maxHeartbeats 8000000 in
set_option maxRecDepth 100000 in
theorem two_pair (f : Int) (a b : ArrM) (f1 f2 : FuncId) [F1 : FnT Tryz.prog f1] [F2 : FnT Tryz.prog f2] (ba bb bf bo bt c1 c2 i n : Nat) (hi : i < n) (h1 : CellOf f1 a n) (h2 : CellOf f2 b n) (G : Rd) (W : World) (hS : Rd.le G W.cell?)
    (ra : boxA G ba a) (rb : boxA G bb b) (rf : boxV G bf (.int .i64 f)) (ro1 : boxV G bo (.func (.func f1) #[] #[ptrV c1])) (ro2 : boxV G bt (.func (.func f2) #[] #[ptrV c2])) (rc1 : boxA G c1 a) (rc2 : boxA G c2 b) (ha : ArrG G a) (hb : ArrG G b) :
    Calls Tryz.prog 227 #[.int .i64 (i : Int), ptrV ba, ptrV bb, ptrV bf, ptrV bo, ptrV bt] W fun e w' => e = .returned (twoV (pairF f a.arr b.arr i)) ∧ Below W.heap.size W w' := by
  refine enterR (args := [_, _, _, _, _, _]) (m := []) (F := []) hS.sub rfl Tryz.func227 rfl Tryz.ntmps227 (by simp) ?_
  clear hS
  by_cases hc : a.char = b.char
  · have hp : pairF f a.arr b.arr i = twoF f (cellA a.arr i) (cellA b.arr i) := by
      unfold pairF
      rw [if_neg (by simpa [ArrM.arr] using hc)]
    rw [hp]
    ((repeat' (first|refine zza ?_|refine zc9 ?_|refine zzb fun w hw => ?_|refine zzh fun _ => ?_|refine zzi fun _ _ => ?_|refine zu1 ?_|refine zu2 ?_|refine zu3 ?_|refine zu4 fun _ => ?_|refine zzj (fun _ => ?_) fun _ => ?_)); (repeat' (refine CW_seq ?_; (repeat' (first|refine zza ?_|refine zc9 ?_|refine zzb fun w hw => ?_|refine zzh fun _ => ?_|refine zzi fun _ _ => ?_|refine zu1 ?_|refine zu2 ?_|refine zu3 ?_|refine zu4 fun _ => ?_|refine zzj (fun _ => ?_) fun _ => ?_)))))
    refine WQ_callY (S := F1) (cap := [ptrV c1]) rfl rfl rfl rfl (fun W hW => h1 c1 i G W hi (hW.le zpk) rc1 ha) ?_
    ((repeat' (first|refine zza ?_|refine zc9 ?_|refine zzb fun w hw => ?_|refine zzh fun _ => ?_|refine zzi fun _ _ => ?_|refine zu1 ?_|refine zu2 ?_|refine zu3 ?_|refine zu4 fun _ => ?_|refine zzj (fun _ => ?_) fun _ => ?_)); (repeat' (refine CW_seq ?_; (repeat' (first|refine zza ?_|refine zc9 ?_|refine zzb fun w hw => ?_|refine zzh fun _ => ?_|refine zzi fun _ _ => ?_|refine zu1 ?_|refine zu2 ?_|refine zu3 ?_|refine zu4 fun _ => ?_|refine zzj (fun _ => ?_) fun _ => ?_)))))
    refine WQ_callY (S := F2) (cap := [ptrV c2]) rfl rfl rfl rfl (fun W hW => h2 c2 i G W hi (hW.le zpk) rc2 hb) ?_
    ((repeat' (first|refine zza ?_|refine zc9 ?_|refine zzb fun w hw => ?_|refine zzh fun _ => ?_|refine zzi fun _ _ => ?_|refine zu1 ?_|refine zu2 ?_|refine zu3 ?_|refine zu4 fun _ => ?_|refine zzj (fun _ => ?_) fun _ => ?_)); (repeat' (refine CW_seq ?_; (repeat' (first|refine zza ?_|refine zc9 ?_|refine zzb fun w hw => ?_|refine zzh fun _ => ?_|refine zzi fun _ _ => ?_|refine zu1 ?_|refine zu2 ?_|refine zu3 ?_|refine zu4 fun _ => ?_|refine zzj (fun _ => ?_) fun _ => ?_)))))
    refine WQ_callV rfl rfl rfl (fun W hW => cell_Two _ _ _ W) ?_
    ((repeat' (first|refine zza ?_|refine zc9 ?_|refine zzb fun w hw => ?_|refine zzh fun _ => ?_|refine zzi fun _ _ => ?_|refine zu1 ?_|refine zu2 ?_|refine zu3 ?_|refine zu4 fun _ => ?_|refine zzj (fun _ => ?_) fun _ => ?_)); (repeat' (refine CW_seq ?_; (repeat' (first|refine zza ?_|refine zc9 ?_|refine zzb fun w hw => ?_|refine zzh fun _ => ?_|refine zzi fun _ _ => ?_|refine zu1 ?_|refine zu2 ?_|refine zu3 ?_|refine zu4 fun _ => ?_|refine zzj (fun _ => ?_) fun _ => ?_)))))
    exact ⟨rfl, hw.below⟩
  · have hp : pairF f a.arr b.arr i = if f = 9 then (1, 0) else (0, 0) := by
      unfold pairF
      rw [if_pos (by simpa [ArrM.arr] using hc)]
    rw [hp]
    by_cases h9 : f = 9
    · rw [if_pos h9]
      ((repeat' (first|refine zza ?_|refine zc9 ?_|refine zzb fun w hw => ?_|refine zzh fun _ => ?_|refine zzi fun _ _ => ?_|refine zu1 ?_|refine zu2 ?_|refine zu3 ?_|refine zu4 fun _ => ?_|refine zzj (fun _ => ?_) fun _ => ?_)); (repeat' (refine CW_seq ?_; (repeat' (first|refine zza ?_|refine zc9 ?_|refine zzb fun w hw => ?_|refine zzh fun _ => ?_|refine zzi fun _ _ => ?_|refine zu1 ?_|refine zu2 ?_|refine zu3 ?_|refine zu4 fun _ => ?_|refine zzj (fun _ => ?_) fun _ => ?_)))))
      exact ⟨rfl, hw.below⟩
    · rw [if_neg h9]
      ((repeat' (first|refine zza ?_|refine zc9 ?_|refine zzb fun w hw => ?_|refine zzh fun _ => ?_|refine zzi fun _ _ => ?_|refine zu1 ?_|refine zu2 ?_|refine zu3 ?_|refine zu4 fun _ => ?_|refine zzj (fun _ => ?_) fun _ => ?_)); (repeat' (refine CW_seq ?_; (repeat' (first|refine zza ?_|refine zc9 ?_|refine zzb fun w hw => ?_|refine zzh fun _ => ?_|refine zzi fun _ _ => ?_|refine zu1 ?_|refine zu2 ?_|refine zu3 ?_|refine zu4 fun _ => ?_|refine zzj (fun _ => ?_) fun _ => ?_)))))
      exact ⟨rfl, hw.below⟩
end Go.Proofs.YtllgkdkjcbohcaaGreatDoor
namespace Go.Proofs.YtllgkdkjcbohcaaGreatDoor
open Go.RowKit
def scalarB (f : Int) : Bool := decide (1 ≤ f ∧ f ≤ 16)
set_option maxHeartbeats 4000000 in
set_option maxRecDepth 100000 in
theorem prim_scalar (f : Int) (w : World) : Calls Tryz.prog 128 #[.int .i64 f] w fun e w' => e = .returned (.bool (scalarB f)) ∧ Below w.heap.size w w' := by
  refine enter (args := [_]) (m := []) (F := []) Tryz.func128 rfl Tryz.ntmps128 (by simp) rfl ?_
  by_cases h1 : 1 ≤ f
  · by_cases h2 : f ≤ 16
    · rw [show scalarB f = true from decide_eq_true ⟨h1, h2⟩]
      ((repeat' (first|refine zza ?_|refine zc9 ?_|refine zzb fun w hw => ?_|refine zzh fun _ => ?_|refine zzi fun _ _ => ?_|refine zu1 ?_|refine zu2 ?_|refine zu3 ?_|refine zu4 fun _ => ?_|refine zzj (fun _ => ?_) fun _ => ?_)); (repeat' (refine CW_seq ?_; (repeat' (first|refine zza ?_|refine zc9 ?_|refine zzb fun w hw => ?_|refine zzh fun _ => ?_|refine zzi fun _ _ => ?_|refine zu1 ?_|refine zu2 ?_|refine zu3 ?_|refine zu4 fun _ => ?_|refine zzj (fun _ => ?_) fun _ => ?_)))))
      exact ⟨by rw [decide_eq_true h2], hw.below⟩
    · rw [show scalarB f = false from decide_eq_false fun h => h2 h.2]
      ((repeat' (first|refine zza ?_|refine zc9 ?_|refine zzb fun w hw => ?_|refine zzh fun _ => ?_|refine zzi fun _ _ => ?_|refine zu1 ?_|refine zu2 ?_|refine zu3 ?_|refine zu4 fun _ => ?_|refine zzj (fun _ => ?_) fun _ => ?_)); (repeat' (refine CW_seq ?_; (repeat' (first|refine zza ?_|refine zc9 ?_|refine zzb fun w hw => ?_|refine zzh fun _ => ?_|refine zzi fun _ _ => ?_|refine zu1 ?_|refine zu2 ?_|refine zu3 ?_|refine zu4 fun _ => ?_|refine zzj (fun _ => ?_) fun _ => ?_)))))
      exact ⟨by rw [decide_eq_false h2], hw.below⟩
  · rw [show scalarB f = false from decide_eq_false fun h => h1 h.1]
    ((repeat' (first|refine zza ?_|refine zc9 ?_|refine zzb fun w hw => ?_|refine zzh fun _ => ?_|refine zzi fun _ _ => ?_|refine zu1 ?_|refine zu2 ?_|refine zu3 ?_|refine zu4 fun _ => ?_|refine zzj (fun _ => ?_) fun _ => ?_)); (repeat' (refine CW_seq ?_; (repeat' (first|refine zza ?_|refine zc9 ?_|refine zzb fun w hw => ?_|refine zzh fun _ => ?_|refine zzi fun _ _ => ?_|refine zu1 ?_|refine zu2 ?_|refine zu3 ?_|refine zu4 fun _ => ?_|refine zzj (fun _ => ?_) fun _ => ?_)))))
    exact ⟨rfl, hw.below⟩
end Go.Proofs.YtllgkdkjcbohcaaGreatDoor
