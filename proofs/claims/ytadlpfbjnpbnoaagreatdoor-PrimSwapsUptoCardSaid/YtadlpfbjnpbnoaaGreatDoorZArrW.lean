/-
  The packages arr and prim: what is told of arrays without making new ones; lists again and again.
-/
import Derived.Test.YtadlpfbjnpbnoaaGreatDoorZGo
import Derived.Test.YtadlpfbjnpbnoaaGreatDoorZTwoEw
namespace Go.Proofs.YtadlpfbjnpbnoaaGreatDoor
open Go.RowKit
section
variable {P : Program} {K : Cx} {ρ : Env} {m : List HP} {t e ty : TypeId} {pos : String} {aft : Array Edge} {g : Option (Nat × Bool)} {x y : Operand} {ops : Array Oper} {Q : Exit → Act → World → Prop} {rest : List Oper} {d bytes n : Nat}
/-- a slice with room, of nothing yet -/
theorem WL_make0 {z : Value} [S : ElT P t e 1 [z] bytes] {kl kc : IntKind} (hx : opv ρ x = some (.int kl 0)) (hy : opv ρ y = some (.int kc (n : Int))) (hb : bytes * n ≤ 281474976710656) (hmax : n ≤ 281474976710656)
    (hg : guardB ops g ρ = some true) (hn : (guardN K.N ops g && Nat.blt d K.N) = true) (k : ∀ b : Nat, WL P K ops Q rest ((d, .slice (some ⟨b, 0, none⟩) 0 n) :: ρ) (sl e 1 (some ⟨b, 0, none⟩) 0 n [] :: m)) :
    WL P K ops Q (⟨some d, .makeSlice t x y, ty, pos, aft, g⟩ :: rest) ρ m := by
  refine WL_step hg hn fun a w hf hm => ?_
  obtain ⟨i, z', hi, hz, hsz, hby, hzs⟩ := S.info
  obtain ⟨w', hrun, r1, r2⟩ := run_make_own (P := P) w w.heap.size t e i z' 1 S.und hi hz hsz kl kc n (by rw [hby]; exact hb) (by unfold maxLen; omega) (Nat.le_refl _)
  refine ⟨_, sl e 1 (some ⟨w.heap.size, 0, none⟩) 0 n [] :: m, w', ?_, ?_, k w.heap.size⟩
  · simp only [execOp, hf.eval hx, hf.eval hy]
    simp [hrun]
  · refine Holds.add (m1 := [sl e 1 (some ⟨w.heap.size, 0, none⟩) 0 n []]) hm ⟨keep_grown r2 (by simp), [w.heap.size], ⟨[w.heap.size], [], rfl, ⟨rfl, r1.1, ?_⟩, rfl, by simp⟩, fun i hi hl => ?_⟩
    · rcases r1.2 with h | ⟨g, cap, cur, hv, _, r⟩
      · exact .inl h
      · exact .inr ⟨g, cap, cur, hv, Nat.zero_le _, r⟩
    · have : i = w.heap.size := by simpa using hi
      omega
end
def scalarB (f : Int) : Bool := decide (1 ≤ f ∧ f ≤ 16)
set_option maxHeartbeats 4000000 in
set_option maxRecDepth 100000 in
theorem prim_scalar (f : Int) (w : World) : Calls Tryz.prog 86 #[.int .i64 f] w fun e w' => e = .returned (.bool (scalarB f)) ∧ Below w.heap.size w w' := by
  refine enter (args := [_]) (m := []) (F := []) Tryz.func86 rfl Tryz.ntmps86 (by simp) rfl ?_
  by_cases h1 : 1 ≤ f
  · by_cases h2 : f ≤ 16
    · rw [show scalarB f = true from decide_eq_true ⟨h1, h2⟩]
      ((repeat' (first|refine zza ?_|refine zc9 ?_|refine zzb fun w hw => ?_|refine zzh fun _ => ?_|refine zzi fun _ _ => ?_|refine zu1 ?_|refine zu2 ?_|refine zu3 ?_|refine zu4 fun _ => ?_|refine zzj (fun _ => ?_) fun _ => ?_)); (repeat' (refine CW_seq ?_; (repeat' (first|refine zza ?_|refine zc9 ?_|refine zzb fun w hw => ?_|refine zzh fun _ => ?_|refine zzi fun _ _ => ?_|refine zu1 ?_|refine zu2 ?_|refine zu3 ?_|refine zu4 fun _ => ?_|refine zzj (fun _ => ?_) fun _ => ?_)))))
      exact ⟨by rw [decide_eq_true h2], hw.below⟩
    · rw [show scalarB f = false from decide_eq_false fun h => h2 h.2]
      ((repeat' (first|refine zza ?_|refine zc9 ?_|refine zzb fun w hw => ?_|refine zzh fun _ => ?_|refine zzi fun _ _ => ?_|refine zu1 ?_|refine zu2 ?_|refine zu3 ?_|refine zu4 fun _ => ?_|refine zzj (fun _ => ?_) fun _ => ?_)); (repeat' (refine CW_seq ?_; (repeat' (first|refine zza ?_|refine zc9 ?_|refine zzb fun w hw => ?_|refine zzh fun _ => ?_|refine zzi fun _ _ => ?_|refine zu1 ?_|refine zu2 ?_|refine zu3 ?_|refine zu4 fun _ => ?_|refine zzj (fun _ => ?_) fun _ => ?_)))))
      exact ⟨by rw [decide_eq_false h2], hw.below⟩
  · rw [show scalarB f = false from decide_eq_false fun h => h1 h.1]
    ((repeat' (first|refine zza ?_|refine zc9 ?_|refine zzb fun w hw => ?_|refine zzh fun _ => ?_|refine zzi fun _ _ => ?_|refine zu1 ?_|refine zu2 ?_|refine zu3 ?_|refine zu4 fun _ => ?_|refine zzj (fun _ => ?_) fun _ => ?_)); (repeat' (refine CW_seq ?_; (repeat' (first|refine zza ?_|refine zc9 ?_|refine zzb fun w hw => ?_|refine zzh fun _ => ?_|refine zzi fun _ _ => ?_|refine zu1 ?_|refine zu2 ?_|refine zu3 ?_|refine zu4 fun _ => ?_|refine zzj (fun _ => ?_) fun _ => ?_)))))
    exact ⟨rfl, hw.below⟩
def fillA (ch : Bool) : Int := if ch then 32 else 0
set_option maxHeartbeats 4000000 in
set_option maxRecDepth 100000 in
theorem arr_fill (a : ArrM) (w : World) : Calls Tryz.prog 150 #[arrV a] w fun e w' => e = .returned (.int .i64 (fillA a.char)) ∧ Below w.heap.size w w' := by
  refine enter (args := [_]) (m := []) (F := []) Tryz.func150 rfl Tryz.ntmps150 (by simp) rfl ?_
  cases hc : a.char with
  | true =>
    ((repeat' (first|refine zza ?_|refine zc9 ?_|refine zzb fun w hw => ?_|refine zzh fun _ => ?_|refine zzi fun _ _ => ?_|refine zu1 ?_|refine zu2 ?_|refine zu3 ?_|refine zu4 fun _ => ?_|refine zzj (fun _ => ?_) fun _ => ?_)); (repeat' (refine CW_seq ?_; (repeat' (first|refine zza ?_|refine zc9 ?_|refine zzb fun w hw => ?_|refine zzh fun _ => ?_|refine zzi fun _ _ => ?_|refine zu1 ?_|refine zu2 ?_|refine zu3 ?_|refine zu4 fun _ => ?_|refine zzj (fun _ => ?_) fun _ => ?_)))))
    exact ⟨rfl, hw.below⟩
  | false =>
    ((repeat' (first|refine zza ?_|refine zc9 ?_|refine zzb fun w hw => ?_|refine zzh fun _ => ?_|refine zzi fun _ _ => ?_|refine zu1 ?_|refine zu2 ?_|refine zu3 ?_|refine zu4 fun _ => ?_|refine zzj (fun _ => ?_) fun _ => ?_)); (repeat' (refine CW_seq ?_; (repeat' (first|refine zza ?_|refine zc9 ?_|refine zzb fun w hw => ?_|refine zzh fun _ => ?_|refine zzi fun _ _ => ?_|refine zu1 ?_|refine zu2 ?_|refine zu3 ?_|refine zu4 fun _ => ?_|refine zzj (fun _ => ?_) fun _ => ?_)))))
    exact ⟨rfl, hw.below⟩
def numE (a : Arr) : Int × Int := if a.shape ≠ [] then (0, 3) else if a.char then (0, 6) else (a.data.getD 0 0, 0)
set_option maxHeartbeats 4000000 in
set_option maxRecDepth 100000 in
theorem prim_number (a : ArrM) (G : Rd) (w : World) (hS : Rd.le G w.cell?) (ha : ArrG G a) (ga : a.arr.Good) : Calls Tryz.prog 36 #[arrV a] w fun e w' => e = .returned (twoV (numE a.arr)) ∧ Below w.heap.size w w' := by
  refine enterR (args := [_]) (m := []) (F := []) hS.sub rfl Tryz.func36 rfl Tryz.ntmps36 (by simp) ?_
  clear hS
  have hd := ha.data
  by_cases h0 : a.shape.xs.length = 0
  · have h1 : a.data.xs.length = 1 := ga.one (List.eq_nil_of_length_eq_zero h0)
    have hp := hd.some_lt (by omega : 0 < a.data.xs.length)
    have hs : ¬ a.arr.shape ≠ [] := fun h => h (List.eq_nil_of_length_eq_zero h0)
    have hn : numE a.arr = if a.char = true then (0, 6) else (a.data.xs.getD 0 0, 0) := by
      unfold numE
      rw [if_neg hs]
      rfl
    rw [hn]
    ((repeat' (first|refine zza ?_|refine zc9 ?_|refine zzb fun w hw => ?_|refine zzh fun _ => ?_|refine zzi fun _ _ => ?_|refine zu1 ?_|refine zu2 ?_|refine zu3 ?_|refine zu4 fun _ => ?_|refine zzj (fun _ => ?_) fun _ => ?_)); (repeat' (refine CW_seq ?_; (repeat' (first|refine zza ?_|refine zc9 ?_|refine zzb fun w hw => ?_|refine zzh fun _ => ?_|refine zzi fun _ _ => ?_|refine zu1 ?_|refine zu2 ?_|refine zu3 ?_|refine zu4 fun _ => ?_|refine zzj (fun _ => ?_) fun _ => ?_)))))
    · rename_i hc
      exact ⟨by rw [if_pos hc]; rfl, hw.below⟩
    · rename_i hc
      rw [if_neg (by rw [hc]; simp)]
      refine WL_op rfl rfl (y_indexN (i := 0) (sz := 1) rfl rfl hp (by omega)) ?_
      ((repeat' (first|refine zza ?_|refine zc9 ?_|refine zzb fun w hw => ?_|refine zzh fun _ => ?_|refine zzi fun _ _ => ?_|refine zu1 ?_|refine zu2 ?_|refine zu3 ?_|refine zu4 fun _ => ?_|refine zzj (fun _ => ?_) fun _ => ?_)); (repeat' (refine CW_seq ?_; (repeat' (first|refine zza ?_|refine zc9 ?_|refine zzb fun w hw => ?_|refine zzh fun _ => ?_|refine zzi fun _ _ => ?_|refine zu1 ?_|refine zu2 ?_|refine zu3 ?_|refine zu4 fun _ => ?_|refine zzj (fun _ => ?_) fun _ => ?_)))))
      exact ⟨rfl, hw.below⟩
  · have hs : a.arr.shape ≠ [] := fun h => h0 (by show a.arr.shape.length = 0; rw [h]; rfl)
    ((repeat' (first|refine zza ?_|refine zc9 ?_|refine zzb fun w hw => ?_|refine zzh fun _ => ?_|refine zzi fun _ _ => ?_|refine zu1 ?_|refine zu2 ?_|refine zu3 ?_|refine zu4 fun _ => ?_|refine zzj (fun _ => ?_) fun _ => ?_)); (repeat' (refine CW_seq ?_; (repeat' (first|refine zza ?_|refine zc9 ?_|refine zzb fun w hw => ?_|refine zzh fun _ => ?_|refine zzi fun _ _ => ?_|refine zu1 ?_|refine zu2 ?_|refine zu3 ?_|refine zu4 fun _ => ?_|refine zzj (fun _ => ?_) fun _ => ?_)))))
    exact ⟨by unfold numE; rw [if_pos hs]; rfl, hw.below⟩
/-- a list again and again -/
def cycL (xs : List Int) (z : Int) (n : Nat) : List Int := (List.range n).map fun i => if xs = [] then z else xs.getD (i % xs.length) 0
theorem cycL_succ (xs : List Int) (z : Int) (n : Nat) : cycL xs z (n + 1) = cycL xs z n ++ [if xs = [] then z else xs.getD (n % xs.length) 0] := by
  unfold cycL
  rw [List.range_succ, List.map_append]
  rfl
set_option maxHeartbeats 8000000 in
set_option maxRecDepth 100000 in
theorem arr_cycled (p : Option Addr) (c n : Nat) (xs : List Int) (z : Int) (G : Rd) (w : World) (hS : Rd.le G w.cell?) (hR : Row encI 1 G p c xs) (hn : n ≤ 1048576) :
    Calls Tryz.prog 149 #[.slice p xs.length c, .int .i64 (n : Int), .int .i64 z] w fun e w' => ∃ x : Option Addr × Nat, True ∧ e = .returned (.slice x.1 n x.2) ∧ Holds w [] [sl 3 1 x.1 n x.2 ((cycL xs z n).map (Value.int .i64))] w' := by
  refine enterR (args := [_, _, _]) (m := []) (F := []) hS.sub rfl Tryz.func149 rfl Tryz.ntmps149 (by simp) ?_
  clear hS
  ((repeat' (first|refine zza ?_|refine zc9 ?_|refine zzb fun w hw => ?_|refine zzh fun _ => ?_|refine zzi fun _ _ => ?_|refine zu1 ?_|refine zu2 ?_|refine zu3 ?_|refine zu4 fun _ => ?_|refine zzj (fun _ => ?_) fun _ => ?_)); (repeat' (refine CW_seq ?_; (repeat' (first|refine zza ?_|refine zc9 ?_|refine zzb fun w hw => ?_|refine zzh fun _ => ?_|refine zzi fun _ _ => ?_|refine zu1 ?_|refine zu2 ?_|refine zu3 ?_|refine zu4 fun _ => ?_|refine zzj (fun _ => ?_) fun _ => ?_)))))
  refine WL_make0 (n := n) rfl rfl (by omega) (by omega) rfl rfl fun b => ?_
  ((repeat' (first|refine zza ?_|refine zc9 ?_|refine zzb fun w hw => ?_|refine zzh fun _ => ?_|refine zzi fun _ _ => ?_|refine zu1 ?_|refine zu2 ?_|refine zu3 ?_|refine zu4 fun _ => ?_|refine zzj (fun _ => ?_) fun _ => ?_)); (repeat' (refine CW_seq ?_; (repeat' (first|refine zza ?_|refine zc9 ?_|refine zzb fun w hw => ?_|refine zzh fun _ => ?_|refine zzi fun _ _ => ?_|refine zu1 ?_|refine zu2 ?_|refine zu3 ?_|refine zu4 fun _ => ?_|refine zzj (fun _ => ?_) fun _ => ?_)))))
  refine CW_loopK [(0,_),(2,_),(11,_)] zcov (fun z' : Nat × Option Addr × Nat => [(12, .int .i64 (z'.1 : Int)), (7, .slice z'.2.1 z'.1 z'.2.2)]) (fun z' => [sl 3 1 z'.2.1 z'.1 z'.2.2 ((cycL xs z z'.1).map (Value.int .i64)), ro w [] G]) (fun z' => z'.1 ≤ n) (fun z' => n - z'.1) (0, some ⟨b, 0, none⟩, n) (Nat.zero_le _) zcov zent ?_
  rintro ⟨i, q, k⟩ hi
  dsimp only at hi ⊢
  by_cases hlt : i < n
  · have hcs := cycL_succ xs z i
    by_cases h0 : xs.length = 0
    · rw [if_pos (List.eq_nil_of_length_eq_zero h0)] at hcs
      ((repeat' (first|refine zza ?_|refine zc9 ?_|refine zzb fun w hw => ?_|refine zzh fun _ => ?_|refine zzi fun _ _ => ?_|refine zu1 ?_|refine zu2 ?_|refine zu3 ?_|refine zu4 fun _ => ?_|refine zzj (fun _ => ?_) fun _ => ?_)); (repeat' (refine CW_seq ?_; (repeat' (first|refine zza ?_|refine zc9 ?_|refine zzb fun w hw => ?_|refine zzh fun _ => ?_|refine zzi fun _ _ => ?_|refine zu1 ?_|refine zu2 ?_|refine zu3 ?_|refine zu4 fun _ => ?_|refine zzj (fun _ => ?_) fun _ => ?_)))))
      rename_i b2 q2 k2
      refine EX_loop' (i + 1, q2, k2) ⟨zcov, ?_, by show n - (i + 1) < n - i; omega, hlt⟩
      dsimp only
      rw [hcs, List.map_append]
      exact zent
    · rw [if_neg (fun h => h0 (by rw [h]; rfl))] at hcs
      have hp := hR.some_lt (by omega : 0 < xs.length)
      have hml : i % xs.length < xs.length := Nat.mod_lt _ (by omega)
      ((repeat' (first|refine zza ?_|refine zc9 ?_|refine zzb fun w hw => ?_|refine zzh fun _ => ?_|refine zzi fun _ _ => ?_|refine zu1 ?_|refine zu2 ?_|refine zu3 ?_|refine zu4 fun _ => ?_|refine zzj (fun _ => ?_) fun _ => ?_)); (repeat' (refine CW_seq ?_; (repeat' (first|refine zza ?_|refine zc9 ?_|refine zzb fun w hw => ?_|refine zzh fun _ => ?_|refine zzi fun _ _ => ?_|refine zu1 ?_|refine zu2 ?_|refine zu3 ?_|refine zu4 fun _ => ?_|refine zzj (fun _ => ?_) fun _ => ?_)))))
      rw [show ((i : Int) % (xs.length : Int)) = ((i % xs.length : Nat) : Int) from rfl]
      generalize i % xs.length = j at hml hcs ⊢
      ((repeat' (first|refine zza ?_|refine zc9 ?_|refine zzb fun w hw => ?_|refine zzh fun _ => ?_|refine zzi fun _ _ => ?_|refine zu1 ?_|refine zu2 ?_|refine zu3 ?_|refine zu4 fun _ => ?_|refine zzj (fun _ => ?_) fun _ => ?_)); (repeat' (refine CW_seq ?_; (repeat' (first|refine zza ?_|refine zc9 ?_|refine zzb fun w hw => ?_|refine zzh fun _ => ?_|refine zzi fun _ _ => ?_|refine zu1 ?_|refine zu2 ?_|refine zu3 ?_|refine zu4 fun _ => ?_|refine zzj (fun _ => ?_) fun _ => ?_)))))
      rename_i b2 q2 k2
      refine EX_loop' (i + 1, q2, k2) ⟨zcov, ?_, by show n - (i + 1) < n - i; omega, hlt⟩
      dsimp only
      rw [hcs, List.map_append]
      exact zent
  · obtain rfl : i = n := by omega
    ((repeat' (first|refine zza ?_|refine zc9 ?_|refine zzb fun w hw => ?_|refine zzh fun _ => ?_|refine zzi fun _ _ => ?_|refine zu1 ?_|refine zu2 ?_|refine zu3 ?_|refine zu4 fun _ => ?_|refine zzj (fun _ => ?_) fun _ => ?_)); (repeat' (refine CW_seq ?_; (repeat' (first|refine zza ?_|refine zc9 ?_|refine zzb fun w hw => ?_|refine zzh fun _ => ?_|refine zzi fun _ _ => ?_|refine zu1 ?_|refine zu2 ?_|refine zu3 ?_|refine zu4 fun _ => ?_|refine zzj (fun _ => ?_) fun _ => ?_)))))
    exact ⟨(q, k), trivial, rfl, hw.ent (Ent.cons .here Ent.nil)⟩
end Go.Proofs.YtadlpfbjnpbnoaaGreatDoor
