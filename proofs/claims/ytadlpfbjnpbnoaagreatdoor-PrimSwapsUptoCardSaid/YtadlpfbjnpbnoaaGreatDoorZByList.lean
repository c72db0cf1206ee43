/-
  The package prim: lists.
  The package prim: the functions whose first array is a list.
-/
import Derived.Test.YtadlpfbjnpbnoaaGreatDoorZGo
import Derived.Test.YtadlpfbjnpbnoaaGreatDoorZTwoEx
import Derived.Test.YtadlpfbjnpbnoaaGreatDoorZTurnR
import Derived.Test.YtadlpfbjnpbnoaaGreatDoorZCutD
import Derived.Test.YtadlpfbjnpbnoaaGreatDoorZKeepX
import Derived.Test.YtadlpfbjnpbnoaaGreatDoorZSprW
import Derived.Test.YtadlpfbjnpbnoaaGreatDoorZDigW
namespace Go.Proofs.YtadlpfbjnpbnoaaGreatDoor
open Go.RowKit
def listA (xs : List Int) : Arr := ⟨false, [(xs.length : Int)], xs⟩
set_option maxHeartbeats 8000000 in
set_option maxRecDepth 100000 in
theorem prim_list (s : SlV Int) (G : Rd) (w : World) (hS : Rd.le G w.cell?) (hs : Row encI 1 G s.p s.c s.xs) (hsI : ∀ x ∈ s.xs, I64 x) (hl : s.xs.length ≤ 4096) :
    Calls Tryz.prog 109 #[.slice s.p s.xs.length s.c] w (Tells (fun z : ArrM => arrV z) (fun z G' => z.arr = listA s.xs ∧ ArrG G' z) G w) := by
  refine enterR (args := [_]) (m := []) (F := []) hS.sub rfl Tryz.func109 rfl Tryz.ntmps109 (by simp) ?_
  clear hS
  ((repeat' (first|refine zza ?_|refine zc9 ?_|refine zzb fun w hw => ?_|refine zzh fun _ => ?_|refine zzi fun _ _ => ?_|refine zu1 ?_|refine zu2 ?_|refine zu3 ?_|refine zu4 fun _ => ?_|refine zzj (fun _ => ?_) fun _ => ?_)); (repeat' (refine CW_seq ?_; (repeat' (first|refine zza ?_|refine zc9 ?_|refine zzb fun w hw => ?_|refine zzh fun _ => ?_|refine zzi fun _ _ => ?_|refine zu1 ?_|refine zu2 ?_|refine zu3 ?_|refine zu4 fun _ => ?_|refine zzj (fun _ => ?_) fun _ => ?_)))))
  rename_i b2 b5
  have hI : I64 (s.xs.length : Int) := ⟨by omega, by omega⟩
  obtain ⟨G1, g1, r1, k1⟩ := Holds.toRo (enc := encI) (sz := 1) (e := 3) (p := some ⟨b5, 0, none⟩) (n := 1) (c := 1) (xs := [(s.xs.length : Int)]) (r := []) (fun _ => rfl) (by decide) (hw.ent (Ent.cons zpk (Ent.blkSlN (n := 1) (sz := 1) (xs := [(s.xs.length : Int)].flatMap encI) (.there .here) rfl rfl (by decide) Ent.nil))) (fun _ _ => by simp)
  have hI' : ∀ x ∈ [(s.xs.length : Int)], I64 x := fun x hx => by
    rw [List.mem_singleton.1 hx]
    exact hI
  exact ⟨⟨false, ⟨some ⟨b5, 0, none⟩, 1, [(s.xs.length : Int)]⟩, s⟩, G1, ⟨rfl, ⟨r1, hs.mono g1.1, hI', hsI⟩⟩, rfl, g1, k1.ent (Ent.cons .here Ent.nil)⟩
set_option maxHeartbeats 4000000 in
set_option maxRecDepth 100000 in
theorem prim_last (a : ArrM) (w : World) (h : a.shape.xs.length ≤ 6) : Calls Tryz.prog 37 #[arrV a] w fun e w' => e = .returned (.tuple #[.int .i64 ((a.shape.xs.length : Int) - 1), .bool (decide (0 < a.shape.xs.length))]) ∧ Below w.heap.size w w' := by
  refine enter (args := [_]) (m := []) (F := []) Tryz.func37 rfl Tryz.ntmps37 (by simp) rfl ?_
  ((repeat' (first|refine zza ?_|refine zc9 ?_|refine zzb fun w hw => ?_|refine zzh fun _ => ?_|refine zzi fun _ _ => ?_|refine zu1 ?_|refine zu2 ?_|refine zu3 ?_|refine zu4 fun _ => ?_|refine zzj (fun _ => ?_) fun _ => ?_)); (repeat' (refine CW_seq ?_; (repeat' (first|refine zza ?_|refine zc9 ?_|refine zzb fun w hw => ?_|refine zzh fun _ => ?_|refine zzi fun _ _ => ?_|refine zu1 ?_|refine zu2 ?_|refine zu3 ?_|refine zu4 fun _ => ?_|refine zzj (fun _ => ?_) fun _ => ?_)))))
  exact ⟨by rw [show decide ((0 : Int) < (a.shape.xs.length : Int)) = decide (0 < a.shape.xs.length) by simp], hw.below⟩
end Go.Proofs.YtadlpfbjnpbnoaaGreatDoor
namespace Go.Proofs.YtadlpfbjnpbnoaaGreatDoor
open Go.RowKit
def byListF (f : Int) (a b : Arr) : Int × Arr :=
  if f = 20 then (if (numE a).2 ≠ 0 then ((numE a).2, zeroA) else if b.shape.length = 0 then (0, b) else (0, rotateF (numE a).1 (b.shape.length - 1) b))
  else if numsE a ≠ 0 then (numsE a, zeroA)
  else if f = 18 then reshapeF a.data b
  else if f = 22 then takeF a.data b
  else if f = 23 then dropF a.data b
  else if f = 33 then (if b.shape.length = 0 then (3, zeroA) else keepF a.data (b.shape.length - 1) b)
  else if f = 34 then (if b.shape.length = 0 then (3, zeroA) else spreadF a.data (b.shape.length - 1) b)
  else if f = 30 then valuedF a.data (decide (a.shape.length = 0)) b
  else if (numE b).2 ≠ 0 then ((numE b).2, zeroA) else (0, listA (digitsF a.data (numE b).1))
theorem numE_I {a : ArrM} {G : Rd} (h : ArrG G a) : I64 (numE a.arr).1 := by
  unfold numE
  split
  · exact zero_I
  · split
    · exact zero_I
    · exact getD_I h.dataI _
theorem last_ax {n : Nat} (h : 0 < n) : (n : Int) - 1 = ((n - 1 : Nat) : Int) := by omega
set_option maxHeartbeats 16000000 in
set_option maxRecDepth 100000 in
theorem byList_turn (a b : ArrM) (G : Rd) (w : World) (hS : Rd.le G w.cell?) (ha : ArrG G a) (hb : ArrG G b) (h1 : a.arr.bad = 0) (h2 : b.arr.bad = 0) :
    Calls Tryz.prog 40 #[.int .i64 20, arrV a, arrV b] w (ResT (byListF 20 a.arr b.arr) G w) := by
  refine enterR (args := [_, _, _]) (m := []) (F := []) hS.sub rfl Tryz.func40 rfl Tryz.ntmps40 (by simp) ?_
  clear hS
  have ga := Arr.good h1
  have gb := Arr.good h2
  have h6 : b.shape.xs.length ≤ 6 := gb.rank
  have hF : byListF 20 a.arr b.arr = if (numE a.arr).2 ≠ 0 then ((numE a.arr).2, zeroA) else if b.shape.xs.length = 0 then (0, b.arr) else (0, rotateF (numE a.arr).1 (b.shape.xs.length - 1) b.arr) := rfl
  rw [hF]
  clear hF
  have hN := fun W (h : Rd.le G W.cell?) => prim_number a G W h ha ga
  obtain ⟨v, e, hve⟩ : ∃ v e, numE a.arr = (v, e) := ⟨_, _, rfl⟩
  rw [hve] at hN ⊢
  dsimp only
  ((repeat' (first|refine zza ?_|refine zc9 ?_|refine zzb fun w hw => ?_|refine zzh fun _ => ?_|refine zzi fun _ _ => ?_|refine zu1 ?_|refine zu2 ?_|refine zu3 ?_|refine zu4 fun _ => ?_|refine zzj (fun _ => ?_) fun _ => ?_)); (repeat' (refine CW_seq ?_; (repeat' (first|refine zza ?_|refine zc9 ?_|refine zzb fun w hw => ?_|refine zzh fun _ => ?_|refine zzi fun _ _ => ?_|refine zu1 ?_|refine zu2 ?_|refine zu3 ?_|refine zu4 fun _ => ?_|refine zzj (fun _ => ?_) fun _ => ?_)))))
  rename_i b4 b5 b6
  refine WL_callV rfl rfl rfl (fun W _ => prim_last b W h6) ?_
  by_cases he : e = 0
  · subst he
    rw [if_neg (by simp)]
    rw [show twoV (v, 0) = .tuple #[.int .i64 v, .nilIface] by unfold twoV; rw [errV_zero]] at hN
    by_cases h0 : b.shape.xs.length = 0
    · rw [if_pos h0, decide_eq_false (by omega : ¬ 0 < b.shape.xs.length)]
      ((repeat' (first|refine zza ?_|refine zc9 ?_|refine zzb fun w hw => ?_|refine zzh fun _ => ?_|refine zzi fun _ _ => ?_|refine zu1 ?_|refine zu2 ?_|refine zu3 ?_|refine zu4 fun _ => ?_|refine zzj (fun _ => ?_) fun _ => ?_)); (repeat' (refine CW_seq ?_; (repeat' (first|refine zza ?_|refine zc9 ?_|refine zzb fun w hw => ?_|refine zzh fun _ => ?_|refine zzi fun _ _ => ?_|refine zu1 ?_|refine zu2 ?_|refine zu3 ?_|refine zu4 fun _ => ?_|refine zzj (fun _ => ?_) fun _ => ?_)))))
      refine WL_callV rfl rfl rfl (fun W hW => hN W (hW.le zpk)) ?_
      clear hN
      ((repeat' (first|refine zza ?_|refine zc9 ?_|refine zzb fun w hw => ?_|refine zzh fun _ => ?_|refine zzi fun _ _ => ?_|refine zu1 ?_|refine zu2 ?_|refine zu3 ?_|refine zu4 fun _ => ?_|refine zzj (fun _ => ?_) fun _ => ?_)); (repeat' (refine CW_seq ?_; (repeat' (first|refine zza ?_|refine zc9 ?_|refine zzb fun w hw => ?_|refine zzh fun _ => ?_|refine zzi fun _ _ => ?_|refine zu1 ?_|refine zu2 ?_|refine zu3 ?_|refine zu4 fun _ => ?_|refine zzj (fun _ => ?_) fun _ => ?_)))))
      refine WL_callX rfl rfl rfl (fun W hW => prim_copied b G W (hW.le zpk) hb gb) ?_
      rintro z _
      dsimp only [List.cons_append, List.nil_append]
      ((repeat' (first|refine zza ?_|refine zc9 ?_|refine zzb fun w hw => ?_|refine zzh fun _ => ?_|refine zzi fun _ _ => ?_|refine zu1 ?_|refine zu2 ?_|refine zu3 ?_|refine zu4 fun _ => ?_|refine zzj (fun _ => ?_) fun _ => ?_)); (repeat' (refine CW_seq ?_; (repeat' (first|refine zza ?_|refine zc9 ?_|refine zzb fun w hw => ?_|refine zzh fun _ => ?_|refine zzi fun _ _ => ?_|refine zu1 ?_|refine zu2 ?_|refine zu3 ?_|refine zu4 fun _ => ?_|refine zzj (fun _ => ?_) fun _ => ?_)))))
      refine EX_retK2 (b := b6) rfl rfl rfl rfl zpk rfl fun w' hw => ?_
      exact ResT.ofO (x := b.arr) (z := z) (hw.ent (Ent.cons zpk (Ent.cons zpk (Ent.cons zpk Ent.nil)))) hb.shapeI hb.dataI
    · rw [if_neg h0, decide_eq_true (by omega : 0 < b.shape.xs.length), last_ax (by omega)]
      ((repeat' (first|refine zza ?_|refine zc9 ?_|refine zzb fun w hw => ?_|refine zzh fun _ => ?_|refine zzi fun _ _ => ?_|refine zu1 ?_|refine zu2 ?_|refine zu3 ?_|refine zu4 fun _ => ?_|refine zzj (fun _ => ?_) fun _ => ?_)); (repeat' (refine CW_seq ?_; (repeat' (first|refine zza ?_|refine zc9 ?_|refine zzb fun w hw => ?_|refine zzh fun _ => ?_|refine zzi fun _ _ => ?_|refine zu1 ?_|refine zu2 ?_|refine zu3 ?_|refine zu4 fun _ => ?_|refine zzj (fun _ => ?_) fun _ => ?_)))))
      refine WL_callV rfl rfl rfl (fun W hW => hN W (hW.le zpk)) ?_
      clear hN
      ((repeat' (first|refine zza ?_|refine zc9 ?_|refine zzb fun w hw => ?_|refine zzh fun _ => ?_|refine zzi fun _ _ => ?_|refine zu1 ?_|refine zu2 ?_|refine zu3 ?_|refine zu4 fun _ => ?_|refine zzj (fun _ => ?_) fun _ => ?_)); (repeat' (refine CW_seq ?_; (repeat' (first|refine zza ?_|refine zc9 ?_|refine zzb fun w hw => ?_|refine zzh fun _ => ?_|refine zzi fun _ _ => ?_|refine zu1 ?_|refine zu2 ?_|refine zu3 ?_|refine zu4 fun _ => ?_|refine zzj (fun _ => ?_) fun _ => ?_)))))
      refine WL_callT (r := [zB b6, boxB b4 a, boxB b5 b]) zent rfl rfl rfl (fun W hW => turn_Rotate v (b.shape.xs.length - 1) b G W (fun x u e => (hW x u e).1) hb h2 (by omega)) ?_
      rintro z G2 hz g2
      ((repeat' (first|refine zza ?_|refine zc9 ?_|refine zzb fun w hw => ?_|refine zzh fun _ => ?_|refine zzi fun _ _ => ?_|refine zu1 ?_|refine zu2 ?_|refine zu3 ?_|refine zu4 fun _ => ?_|refine zzj (fun _ => ?_) fun _ => ?_)); (repeat' (refine CW_seq ?_; (repeat' (first|refine zza ?_|refine zc9 ?_|refine zzb fun w hw => ?_|refine zzh fun _ => ?_|refine zzi fun _ _ => ?_|refine zu1 ?_|refine zu2 ?_|refine zu3 ?_|refine zu4 fun _ => ?_|refine zzj (fun _ => ?_) fun _ => ?_)))))
      refine EX_retK2 (b := b6) rfl rfl rfl rfl zpk rfl fun w' hw => ?_
      exact ⟨z, G2, hz, rfl, g2, hw.ent (Ent.cons zpk Ent.nil)⟩
  · rw [if_pos he]
    rw [show twoV (v, e) = .tuple #[.int .i64 v, .iface 28 (.int .i64 e)] by unfold twoV; rw [errV_ne he]] at hN
    ((repeat' (first|refine zza ?_|refine zc9 ?_|refine zzb fun w hw => ?_|refine zzh fun _ => ?_|refine zzi fun _ _ => ?_|refine zu1 ?_|refine zu2 ?_|refine zu3 ?_|refine zu4 fun _ => ?_|refine zzj (fun _ => ?_) fun _ => ?_)); (repeat' (refine CW_seq ?_; (repeat' (first|refine zza ?_|refine zc9 ?_|refine zzb fun w hw => ?_|refine zzh fun _ => ?_|refine zzi fun _ _ => ?_|refine zu1 ?_|refine zu2 ?_|refine zu3 ?_|refine zu4 fun _ => ?_|refine zzj (fun _ => ?_) fun _ => ?_)))))
    refine WL_callV rfl rfl rfl (fun W hW => hN W (hW.le zpk)) ?_
    clear hN
    ((repeat' (first|refine zza ?_|refine zc9 ?_|refine zzb fun w hw => ?_|refine zzh fun _ => ?_|refine zzi fun _ _ => ?_|refine zu1 ?_|refine zu2 ?_|refine zu3 ?_|refine zu4 fun _ => ?_|refine zzj (fun _ => ?_) fun _ => ?_)); (repeat' (refine CW_seq ?_; (repeat' (first|refine zza ?_|refine zc9 ?_|refine zzb fun w hw => ?_|refine zzh fun _ => ?_|refine zzi fun _ _ => ?_|refine zu1 ?_|refine zu2 ?_|refine zu3 ?_|refine zu4 fun _ => ?_|refine zzj (fun _ => ?_) fun _ => ?_)))))
    refine EX_retK2 (b := b6) rfl rfl rfl rfl zpk rfl fun w' hw => ?_
    exact ResT.err he (hw.ent (Ent.cons zpk Ent.nil))
end Go.Proofs.YtadlpfbjnpbnoaaGreatDoor
