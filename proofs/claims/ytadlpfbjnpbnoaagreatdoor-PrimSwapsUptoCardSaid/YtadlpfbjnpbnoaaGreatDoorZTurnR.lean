/-
  The package prim: the comma of two arrays.
  The package turn: turn.Rotate.
-/
import Derived.Test.YtadlpfbjnpbnoaaGreatDoorZGo
import Derived.Test.YtadlpfbjnpbnoaaGreatDoorZByBoth
import Derived.Test.YtadlpfbjnpbnoaaGreatDoorZJoinW
import Derived.Test.YtadlpfbjnpbnoaaGreatDoorZTurnM
namespace Go.Proofs.YtadlpfbjnpbnoaaGreatDoor
open Go.RowKit
theorem ptr2_build (x y : Nat) (w : World) : (Instr.build 122 #[(0, ptrV x), (1, ptrV y)]).run Tryz.prog w = .ok (.agg #[ptrV x, ptrV y]) w := by kernel_rfl
theorem ptr2_index0 (a b : Nat) (w : World) : (Instr.index 122 (.agg #[ptrV a, ptrV b]) (.int .i64 0)).run Tryz.prog w = .ok (ptrV a) w := by kernel_rfl
theorem ptr2_index1 (a b : Nat) (w : World) : (Instr.index 122 (.agg #[ptrV a, ptrV b]) (.int .i64 1)).run Tryz.prog w = .ok (ptrV b) w := by kernel_rfl
/-- a slice of the call's own may only be read from here on -/
theorem EX_row {α : Type} {enc : α → List Value} {sz : Nat} (hs : ∀ x, (enc x).length = sz) (h0 : 0 < sz) {K : Cx} {ρ : Env} {m r : List HP} {Q : Exit → Act → World → Prop} {x : Exit} {G : Rd} {e : TypeId} {n c : Nat} {p : Option Addr} {xs : List α} (hF : K.F = []) (he : Ent m (ro K.w0 K.F G :: sl e sz p n c (xs.flatMap enc) :: r))
    (k : ∀ G', Rd.grow K.w0 G G' → Row enc sz G' p c xs → EX K Q x ρ (ro K.w0 K.F G' :: r)) : EX K Q x ρ m := ⟨fun a w hf hm => by
  obtain ⟨G', g1, g2, g3⟩ := Holds.toRo hs h0 (hm.ent he) (fun _ _ => by rw [hF]; simp)
  exact (k G' g1 g2).run a w hf g3⟩
theorem vecA_bad {a : Arr} (h : a.bad = 0) : (vecA a).bad = 0 := by
  unfold vecA
  split
  · rename_i h0
    have g := Arr.good h
    have h1 : a.data.length = 1 := g.one (List.eq_nil_of_length_eq_zero h0)
    obtain ⟨c, s, d⟩ := a
    have h0' : s = [] := List.eq_nil_of_length_eq_zero h0
    subst h0'
    unfold Arr.bad checkF at h ⊢
    rw [show countF [] = (1, 0) from rfl] at h
    rw [show countF [1] = (1, 0) from rfl]
    exact h
  · exact h
theorem vecA_len (a : Arr) : 0 < (vecA a).shape.length := by
  unfold vecA
  split
  · exact Nat.one_pos
  · omega
structure VecM where
  i : Nat
  a : ArrM
  b : ArrM
  G : Rd
structure VecI (w : World) (G : Rd) (a b : ArrM) (z : VecM) : Prop where
  le : z.i ≤ 2
  grow : Rd.grow w G z.G
  ga : ArrG z.G z.a
  gb : ArrG z.G z.b
  ea : z.a.arr = if 1 ≤ z.i then vecA a.arr else a.arr
  eb : z.b.arr = if 2 ≤ z.i then vecA b.arr else b.arr
set_option maxHeartbeats 16000000 in
set_option maxRecDepth 100000 in
theorem byBoth_comma (a b : ArrM) (G : Rd) (w : World) (hS : Rd.le G w.cell?) (ha : ArrG G a) (hb : ArrG G b) (h1 : a.arr.bad = 0) (h2 : b.arr.bad = 0) :
    Calls Tryz.prog 41 #[.int .i64 19, arrV a, arrV b] w (ResT (byBothF 19 a.arr b.arr) G w) := by
  refine enterR (args := [_, _, _]) (m := []) (F := []) hS.sub rfl Tryz.func41 rfl Tryz.ntmps41 (by simp) ?_
  clear hS
  have hF : byBothF 19 a.arr b.arr = joinF ((vecA a.arr).shape.length - 1) (vecA a.arr) (vecA b.arr) := rfl
  rw [hF]
  clear hF
  have g1 := vecA_bad h1
  have g2 := vecA_bad h2
  have l1 := vecA_len a.arr
  have l6 : (vecA a.arr).shape.length ≤ 6 := (Arr.good g1).rank
  have ya : ∀ z : ArrM, z.arr = a.arr → z.shape.xs.length = 0 → ∀ p c, (⟨z.char, ⟨p, c, [1]⟩, z.data⟩ : ArrM).arr = vecA a.arr := fun z h h0 p c => by
    rw [← h]
    unfold vecA
    rw [if_pos (show z.arr.shape.length = 0 from h0)]
    rfl
  have yb : ∀ z : ArrM, z.arr = b.arr → z.shape.xs.length = 0 → ∀ p c, (⟨z.char, ⟨p, c, [1]⟩, z.data⟩ : ArrM).arr = vecA b.arr := fun z h h0 p c => by
    rw [← h]
    unfold vecA
    rw [if_pos (show z.arr.shape.length = 0 from h0)]
    rfl
  have na : ∀ z : ArrM, z.arr = a.arr → z.shape.xs.length ≠ 0 → z.arr = vecA a.arr := fun z h h0 => by
    rw [← h]
    unfold vecA
    rw [if_neg (show ¬ z.arr.shape.length = 0 from h0)]
  have nb : ∀ z : ArrM, z.arr = b.arr → z.shape.xs.length ≠ 0 → z.arr = vecA b.arr := fun z h h0 => by
    rw [← h]
    unfold vecA
    rw [if_neg (show ¬ z.arr.shape.length = 0 from h0)]
  clear h1 h2
  have i0 : VecI w G a b ⟨0, a, b, G⟩ := ⟨Nat.zero_le _, Rd.grow_refl _ _, ha, hb, rfl, rfl⟩
  clear ha hb
  obtain ⟨VA, hVA⟩ : ∃ V, V = vecA a.arr := ⟨_, rfl⟩
  obtain ⟨VB, hVB⟩ : ∃ V, V = vecA b.arr := ⟨_, rfl⟩
  rw [← hVA] at g1 l1 l6 ya na ⊢
  rw [← hVB] at g2 yb nb ⊢
  ((repeat' (first|refine zza ?_|refine zc9 ?_|refine zzb fun w hw => ?_|refine zzh fun _ => ?_|refine zzi fun _ _ => ?_|refine zu1 ?_|refine zu2 ?_|refine zu3 ?_|refine zu4 fun _ => ?_|refine zzj (fun _ => ?_) fun _ => ?_)); (repeat' (refine CW_seq ?_; (repeat' (first|refine zza ?_|refine zc9 ?_|refine zzb fun w hw => ?_|refine zzh fun _ => ?_|refine zzi fun _ _ => ?_|refine zu1 ?_|refine zu2 ?_|refine zu3 ?_|refine zu4 fun _ => ?_|refine zzj (fun _ => ?_) fun _ => ?_)))))
  rename_i b4 b5 b6
  refine WL_op rfl rfl (y_buildA rfl (fun W => ptr2_build _ _ W)) ?_
  ((repeat' (first|refine zza ?_|refine zc9 ?_|refine zzb fun w hw => ?_|refine zzh fun _ => ?_|refine zzi fun _ _ => ?_|refine zu1 ?_|refine zu2 ?_|refine zu3 ?_|refine zu4 fun _ => ?_|refine zzj (fun _ => ?_) fun _ => ?_)); (repeat' (refine CW_seq ?_; (repeat' (first|refine zza ?_|refine zc9 ?_|refine zzb fun w hw => ?_|refine zzh fun _ => ?_|refine zzi fun _ _ => ?_|refine zu1 ?_|refine zu2 ?_|refine zu3 ?_|refine zu4 fun _ => ?_|refine zzj (fun _ => ?_) fun _ => ?_)))))
  refine CW_loopK [(4,_),(5,_),(6,_),(16,_)] zcov (fun z : VecM => [(17, .int .i64 (z.i : Int))]) (fun z => [ro w [] z.G, zB b6, boxB b4 z.a, boxB b5 z.b]) (VecI w G a b) (fun z => 2 - z.i) ⟨0, a, b, G⟩ i0 zcov zent ?_
  clear i0
  rintro ⟨i, a', b', G'⟩ ⟨hi, hg, ha, hb, ea, eb⟩
  dsimp only at hi hg ha hb ea eb ⊢
  by_cases e0 : i = 0
  · subst e0
    rw [if_neg (by omega)] at ea eb
    by_cases hz : a'.shape.xs.length = 0
    · ((repeat' (first|refine zza ?_|refine zc9 ?_|refine zzb fun w hw => ?_|refine zzh fun _ => ?_|refine zzi fun _ _ => ?_|refine zu1 ?_|refine zu2 ?_|refine zu3 ?_|refine zu4 fun _ => ?_|refine zzj (fun _ => ?_) fun _ => ?_)); (repeat' (refine CW_seq ?_; (repeat' (first|refine zza ?_|refine zc9 ?_|refine zzb fun w hw => ?_|refine zzh fun _ => ?_|refine zzi fun _ _ => ?_|refine zu1 ?_|refine zu2 ?_|refine zu3 ?_|refine zu4 fun _ => ?_|refine zzj (fun _ => ?_) fun _ => ?_)))))
      refine WL_op rfl rfl (y_indexA rfl rfl (fun W => ptr2_index0 _ _ W)) ?_
      ((repeat' (first|refine zza ?_|refine zc9 ?_|refine zzb fun w hw => ?_|refine zzh fun _ => ?_|refine zzi fun _ _ => ?_|refine zu1 ?_|refine zu2 ?_|refine zu3 ?_|refine zu4 fun _ => ?_|refine zzj (fun _ => ?_) fun _ => ?_)); (repeat' (refine CW_seq ?_; (repeat' (first|refine zza ?_|refine zc9 ?_|refine zzb fun w hw => ?_|refine zzh fun _ => ?_|refine zzi fun _ _ => ?_|refine zu1 ?_|refine zu2 ?_|refine zu3 ?_|refine zu4 fun _ => ?_|refine zzj (fun _ => ?_) fun _ => ?_)))))
      rename_i bs
      refine EX_row (enc := encI) (sz := 1) (e := 3) (p := some ⟨bs, 0, none⟩) (n := 1) (c := 1) (xs := [1]) (r := [blk b4 27 #[.bool a'.char, .slice (some ⟨bs, 0, none⟩) 1 1, .slice a'.data.p a'.data.xs.length a'.data.c], zB b6, boxB b5 b']) (fun _ => rfl) (by decide) rfl (Ent.cons zpk (Ent.blkSlN (n := 1) (sz := 1) (xs := [1].flatMap encI) zpk rfl rfl (by decide) (Ent.consK (k := zent) zpk))) fun G2 g2' r2 => ?_
      exact EX_loop' ⟨1, ⟨a'.char, ⟨some ⟨bs, 0, none⟩, 1, [1]⟩, a'.data⟩, b', G2⟩ ⟨zcov, (Ent.cons zpk (Ent.cons zpk (Ent.cons zpk (Ent.cons zpk Ent.nil)))), by show 2 - 1 < 2 - 0; omega, ⟨by show 1 ≤ 2; decide, Rd.grow_tr hg g2', ⟨r2, (ha.mono g2'.1).data, fun x hx => by rw [List.mem_singleton.1 hx]; exact ⟨by decide, by decide⟩, ha.dataI⟩, hb.mono g2'.1, by show ArrM.arr _ = if 1 ≤ 1 then vecA a.arr else a.arr; rw [if_pos (Nat.le_refl _), ← hVA]; exact ya a' ea hz _ _, by show b'.arr = if 2 ≤ 1 then vecA b.arr else b.arr; rw [if_neg (by omega), eb]⟩⟩
    · have := na a' ea hz
      ((repeat' (first|refine zza ?_|refine zc9 ?_|refine zzb fun w hw => ?_|refine zzh fun _ => ?_|refine zzi fun _ _ => ?_|refine zu1 ?_|refine zu2 ?_|refine zu3 ?_|refine zu4 fun _ => ?_|refine zzj (fun _ => ?_) fun _ => ?_)); (repeat' (refine CW_seq ?_; (repeat' (first|refine zza ?_|refine zc9 ?_|refine zzb fun w hw => ?_|refine zzh fun _ => ?_|refine zzi fun _ _ => ?_|refine zu1 ?_|refine zu2 ?_|refine zu3 ?_|refine zu4 fun _ => ?_|refine zzj (fun _ => ?_) fun _ => ?_)))))
      refine WL_op rfl rfl (y_indexA rfl rfl (fun W => ptr2_index0 _ _ W)) ?_
      ((repeat' (first|refine zza ?_|refine zc9 ?_|refine zzb fun w hw => ?_|refine zzh fun _ => ?_|refine zzi fun _ _ => ?_|refine zu1 ?_|refine zu2 ?_|refine zu3 ?_|refine zu4 fun _ => ?_|refine zzj (fun _ => ?_) fun _ => ?_)); (repeat' (refine CW_seq ?_; (repeat' (first|refine zza ?_|refine zc9 ?_|refine zzb fun w hw => ?_|refine zzh fun _ => ?_|refine zzi fun _ _ => ?_|refine zu1 ?_|refine zu2 ?_|refine zu3 ?_|refine zu4 fun _ => ?_|refine zzj (fun _ => ?_) fun _ => ?_)))))
      exact EX_loop' ⟨1, a', b', G'⟩ ⟨zcov, zent, by show 2 - 1 < 2 - 0; omega, ⟨by show 1 ≤ 2; decide, hg, ha, hb, by show a'.arr = if 1 ≤ 1 then vecA a.arr else a.arr; rw [if_pos (Nat.le_refl _), this, hVA], by show b'.arr = if 2 ≤ 1 then vecA b.arr else b.arr; rw [if_neg (by omega), eb]⟩⟩
  by_cases e1 : i = 1
  · subst e1
    rw [if_pos (by omega)] at ea
    rw [if_neg (by omega)] at eb
    by_cases hz : b'.shape.xs.length = 0
    · ((repeat' (first|refine zza ?_|refine zc9 ?_|refine zzb fun w hw => ?_|refine zzh fun _ => ?_|refine zzi fun _ _ => ?_|refine zu1 ?_|refine zu2 ?_|refine zu3 ?_|refine zu4 fun _ => ?_|refine zzj (fun _ => ?_) fun _ => ?_)); (repeat' (refine CW_seq ?_; (repeat' (first|refine zza ?_|refine zc9 ?_|refine zzb fun w hw => ?_|refine zzh fun _ => ?_|refine zzi fun _ _ => ?_|refine zu1 ?_|refine zu2 ?_|refine zu3 ?_|refine zu4 fun _ => ?_|refine zzj (fun _ => ?_) fun _ => ?_)))))
      refine WL_op rfl rfl (y_indexA rfl rfl (fun W => ptr2_index1 _ _ W)) ?_
      ((repeat' (first|refine zza ?_|refine zc9 ?_|refine zzb fun w hw => ?_|refine zzh fun _ => ?_|refine zzi fun _ _ => ?_|refine zu1 ?_|refine zu2 ?_|refine zu3 ?_|refine zu4 fun _ => ?_|refine zzj (fun _ => ?_) fun _ => ?_)); (repeat' (refine CW_seq ?_; (repeat' (first|refine zza ?_|refine zc9 ?_|refine zzb fun w hw => ?_|refine zzh fun _ => ?_|refine zzi fun _ _ => ?_|refine zu1 ?_|refine zu2 ?_|refine zu3 ?_|refine zu4 fun _ => ?_|refine zzj (fun _ => ?_) fun _ => ?_)))))
      rename_i bs
      refine EX_row (enc := encI) (sz := 1) (e := 3) (p := some ⟨bs, 0, none⟩) (n := 1) (c := 1) (xs := [1]) (r := [blk b5 27 #[.bool b'.char, .slice (some ⟨bs, 0, none⟩) 1 1, .slice b'.data.p b'.data.xs.length b'.data.c], zB b6, boxB b4 a']) (fun _ => rfl) (by decide) rfl (Ent.cons zpk (Ent.blkSlN (n := 1) (sz := 1) (xs := [1].flatMap encI) zpk rfl rfl (by decide) (Ent.consK (k := zent) zpk))) fun G2 g2' r2 => ?_
      exact EX_loop' ⟨2, a', ⟨b'.char, ⟨some ⟨bs, 0, none⟩, 1, [1]⟩, b'.data⟩, G2⟩ ⟨zcov, (Ent.cons zpk (Ent.cons zpk (Ent.cons zpk (Ent.cons zpk Ent.nil)))), by show 2 - 2 < 2 - 1; omega, ⟨by show 2 ≤ 2; decide, Rd.grow_tr hg g2', ha.mono g2'.1, ⟨r2, (hb.mono g2'.1).data, fun x hx => by rw [List.mem_singleton.1 hx]; exact ⟨by decide, by decide⟩, hb.dataI⟩, by show a'.arr = if 1 ≤ 2 then vecA a.arr else a.arr; rw [if_pos (by omega), ea], by show ArrM.arr _ = if 2 ≤ 2 then vecA b.arr else b.arr; rw [if_pos (Nat.le_refl _), ← hVB]; exact yb b' eb hz _ _⟩⟩
    · have := nb b' eb hz
      ((repeat' (first|refine zza ?_|refine zc9 ?_|refine zzb fun w hw => ?_|refine zzh fun _ => ?_|refine zzi fun _ _ => ?_|refine zu1 ?_|refine zu2 ?_|refine zu3 ?_|refine zu4 fun _ => ?_|refine zzj (fun _ => ?_) fun _ => ?_)); (repeat' (refine CW_seq ?_; (repeat' (first|refine zza ?_|refine zc9 ?_|refine zzb fun w hw => ?_|refine zzh fun _ => ?_|refine zzi fun _ _ => ?_|refine zu1 ?_|refine zu2 ?_|refine zu3 ?_|refine zu4 fun _ => ?_|refine zzj (fun _ => ?_) fun _ => ?_)))))
      refine WL_op rfl rfl (y_indexA rfl rfl (fun W => ptr2_index1 _ _ W)) ?_
      ((repeat' (first|refine zza ?_|refine zc9 ?_|refine zzb fun w hw => ?_|refine zzh fun _ => ?_|refine zzi fun _ _ => ?_|refine zu1 ?_|refine zu2 ?_|refine zu3 ?_|refine zu4 fun _ => ?_|refine zzj (fun _ => ?_) fun _ => ?_)); (repeat' (refine CW_seq ?_; (repeat' (first|refine zza ?_|refine zc9 ?_|refine zzb fun w hw => ?_|refine zzh fun _ => ?_|refine zzi fun _ _ => ?_|refine zu1 ?_|refine zu2 ?_|refine zu3 ?_|refine zu4 fun _ => ?_|refine zzj (fun _ => ?_) fun _ => ?_)))))
      exact EX_loop' ⟨2, a', b', G'⟩ ⟨zcov, zent, by show 2 - 2 < 2 - 1; omega, ⟨by show 2 ≤ 2; decide, hg, ha, hb, by show a'.arr = if 1 ≤ 2 then vecA a.arr else a.arr; rw [if_pos (by omega), ea], by show b'.arr = if 2 ≤ 2 then vecA b.arr else b.arr; rw [if_pos (Nat.le_refl _), this, hVB]⟩⟩
  obtain rfl : i = 2 := by omega
  rw [if_pos (by omega), ← hVA] at ea
  rw [if_pos (by omega), ← hVB] at eb
  clear e0 e1 hi ya yb na nb hVA hVB
  subst ea eb
  have hlen : a'.arr.shape.length = a'.shape.xs.length := rfl
  rw [hlen] at l1 l6 ⊢
  have hJ := fun W (h : Rd.le G' W.cell?) => cut_Join (a'.shape.xs.length - 1) a' b' G' W h ha hb g1 g2 (by omega)
  rw [show ((a'.shape.xs.length - 1 : Nat) : Int) = (a'.shape.xs.length : Int) - 1 by omega] at hJ
  ((repeat' (first|refine zza ?_|refine zc9 ?_|refine zzb fun w hw => ?_|refine zzh fun _ => ?_|refine zzi fun _ _ => ?_|refine zu1 ?_|refine zu2 ?_|refine zu3 ?_|refine zu4 fun _ => ?_|refine zzj (fun _ => ?_) fun _ => ?_)); (repeat' (refine CW_seq ?_; (repeat' (first|refine zza ?_|refine zc9 ?_|refine zzb fun w hw => ?_|refine zzh fun _ => ?_|refine zzi fun _ _ => ?_|refine zu1 ?_|refine zu2 ?_|refine zu3 ?_|refine zu4 fun _ => ?_|refine zzj (fun _ => ?_) fun _ => ?_)))))
  refine WL_callT (r := [zB b6, boxB b4 a', boxB b5 b']) zent rfl rfl rfl (fun W hW => hJ W (fun x u e => (hW x u e).1)) ?_
  rintro z G2 hz g2
  ((repeat' (first|refine zza ?_|refine zc9 ?_|refine zzb fun w hw => ?_|refine zzh fun _ => ?_|refine zzi fun _ _ => ?_|refine zu1 ?_|refine zu2 ?_|refine zu3 ?_|refine zu4 fun _ => ?_|refine zzj (fun _ => ?_) fun _ => ?_)); (repeat' (refine CW_seq ?_; (repeat' (first|refine zza ?_|refine zc9 ?_|refine zzb fun w hw => ?_|refine zzh fun _ => ?_|refine zzi fun _ _ => ?_|refine zu1 ?_|refine zu2 ?_|refine zu3 ?_|refine zu4 fun _ => ?_|refine zzj (fun _ => ?_) fun _ => ?_)))))
  refine EX_retK2 (b := b6) rfl rfl rfl rfl zpk rfl fun w' hw => ?_
  exact ⟨z, G2, hz, rfl, Rd.grow_tr hg g2, hw.ent (Ent.cons zpk Ent.nil)⟩
end Go.Proofs.YtadlpfbjnpbnoaaGreatDoor
namespace Go.Proofs.YtadlpfbjnpbnoaaGreatDoor
open Go.RowKit
abbrev boxL (G : Rd) (b : Nat) (l : LineF) : Prop := Row lineE 3 G (some ⟨b, 0, none⟩) 1 [l]
set_option maxHeartbeats 8000000 in
set_option maxRecDepth 100000 in
theorem rot_from (l : LineF) (d i bb bl : Nat) (hi : i < l.long) (hd : d < l.long) (hl : l.long ≤ 4096) (G : Rd) (W : World) (hS : Rd.le G W.cell?) (rb : boxV G bb (.int .i64 (d : Int))) (rl : boxL G bl l) :
    Calls Tryz.prog 148 #[.int .i64 (i : Int), ptrV bb, ptrV bl] W fun e w' => e = .returned (.int .i64 (((i + d) % l.long : Nat) : Int)) ∧ Below W.heap.size W w' := by
  refine enterR (args := [_, _, _]) (m := []) (F := []) hS.sub rfl Tryz.func148 rfl Tryz.ntmps148 (by simp) ?_
  clear hS
  ((repeat' (first|refine zza ?_|refine zc9 ?_|refine zzb fun w hw => ?_|refine zzh fun _ => ?_|refine zzi fun _ _ => ?_|refine zu1 ?_|refine zu2 ?_|refine zu3 ?_|refine zu4 fun _ => ?_|refine zzj (fun _ => ?_) fun _ => ?_)); (repeat' (refine CW_seq ?_; (repeat' (first|refine zza ?_|refine zc9 ?_|refine zzb fun w hw => ?_|refine zzh fun _ => ?_|refine zzi fun _ _ => ?_|refine zu1 ?_|refine zu2 ?_|refine zu3 ?_|refine zu4 fun _ => ?_|refine zzj (fun _ => ?_) fun _ => ?_)))))
  exact ⟨rfl, hw.below⟩
set_option maxHeartbeats 16000000 in
set_option maxRecDepth 100000 in
theorem turn_Rotate (n : Int) (k : Nat) (a : ArrM) (G : Rd) (w : World) (hS : Rd.le G w.cell?) (ha : ArrG G a) (h0 : a.arr.bad = 0) (hk : k < a.shape.xs.length) :
    Calls Tryz.prog 100 #[.int .i64 n, .int .i64 (k : Int), arrV a] w (ResT (0, rotateF n k a.arr) G w) := by
  refine enterR (args := [_, _, _]) (m := []) (F := []) hS.sub rfl Tryz.func100 rfl Tryz.ntmps100 (by simp) ?_
  clear hS
  have ga := Arr.good h0
  obtain ⟨l1, l2, l3⟩ := lineF_le ga hk
  have hd := lineF_cells ga hk
  have hA := fun W (h : Rd.le G W.cell?) => along_ok k a G W h ha h0 hk
  have hrF : rotateF n k a.arr = ⟨a.char, a.shape.xs, movedL a.data.xs (lineF k a.arr) (fun i => (i + byR n (lineF k a.arr).long) % (lineF k a.arr).long) (lineF k a.arr).outer⟩ := rfl
  rw [hrF]
  clear hrF
  generalize lineF k a.arr = l at *
  have hdI := ha.dataI
  have hsI := ha.shapeI
  ((repeat' (first|refine zza ?_|refine zc9 ?_|refine zzb fun w hw => ?_|refine zzh fun _ => ?_|refine zzi fun _ _ => ?_|refine zu1 ?_|refine zu2 ?_|refine zu3 ?_|refine zu4 fun _ => ?_|refine zzj (fun _ => ?_) fun _ => ?_)); (repeat' (refine CW_seq ?_; (repeat' (first|refine zza ?_|refine zc9 ?_|refine zzb fun w hw => ?_|refine zzh fun _ => ?_|refine zzi fun _ _ => ?_|refine zu1 ?_|refine zu2 ?_|refine zu3 ?_|refine zu4 fun _ => ?_|refine zzj (fun _ => ?_) fun _ => ?_)))))
  rename_i b5 b6
  refine WL_callV rfl rfl rfl (fun W hW => hA W (hW.le zpk)) ?_
  clear hA
  have hfr : ∀ i, i < l.long → (i + byR n l.long) % l.long < l.long := fun i hi => Nat.mod_lt _ (by omega)
  have hby : ∀ {i}, i < l.long → byR n l.long < l.long := fun {i} hi => by
    have h1 : 0 < l.long := by omega
    have h2 := Int.emod_lt_of_pos (n.tmod (l.long : Int) + l.long) (by omega : (0 : Int) < (l.long : Int))
    have h3 := Int.emod_nonneg (n.tmod (l.long : Int) + l.long) (by omega : (l.long : Int) ≠ 0)
    unfold byR
    rw [if_pos h1]
    omega
  by_cases hl : 0 < l.long
  · have hbv : (((byR n l.long : Nat)) : Int) = (n.tmod (l.long : Int) + l.long) % (l.long : Int) := by
      have h3 := Int.emod_nonneg (n.tmod (l.long : Int) + l.long) (by omega : (l.long : Int) ≠ 0)
      unfold byR
      rw [if_pos hl]
      omega
    have t1 := Int.tmod_lt_of_pos n (by omega : (0 : Int) < (l.long : Int))
    have t2 := Int.lt_tmod_of_pos n (by omega : (0 : Int) < (l.long : Int))
    ((repeat' (first|refine zza ?_|refine zc9 ?_|refine zzb fun w hw => ?_|refine zzh fun _ => ?_|refine zzi fun _ _ => ?_|refine zu1 ?_|refine zu2 ?_|refine zu3 ?_|refine zu4 fun _ => ?_|refine zzj (fun _ => ?_) fun _ => ?_)); (repeat' (refine CW_seq ?_; (repeat' (first|refine zza ?_|refine zc9 ?_|refine zzb fun w hw => ?_|refine zzh fun _ => ?_|refine zzi fun _ _ => ?_|refine zu1 ?_|refine zu2 ?_|refine zu3 ?_|refine zu4 fun _ => ?_|refine zzj (fun _ => ?_) fun _ => ?_)))))
    rename_i b8 b10
    refine WB_op rfl rfl (y_rem rfl rfl (by omega)) ?_
    ((repeat' (first|refine zza ?_|refine zc9 ?_|refine zzb fun w hw => ?_|refine zzh fun _ => ?_|refine zzi fun _ _ => ?_|refine zu1 ?_|refine zu2 ?_|refine zu3 ?_|refine zu4 fun _ => ?_|refine zzj (fun _ => ?_) fun _ => ?_)); (repeat' (refine CW_seq ?_; (repeat' (first|refine zza ?_|refine zc9 ?_|refine zzb fun w hw => ?_|refine zzh fun _ => ?_|refine zzi fun _ _ => ?_|refine zu1 ?_|refine zu2 ?_|refine zu3 ?_|refine zu4 fun _ => ?_|refine zzj (fun _ => ?_) fun _ => ?_)))))
    refine WL_rowB (enc := fun v : Value => [v]) (sz := 1) (b := b10) (u := .int .i64 ((byR n l.long : Nat) : Int)) (fun _ => rfl) (by decide) rfl zpk zpk (by rw [hbv]; kernel_rfl) fun G1 g1 r1 => ?_
    refine WL_rowB (enc := lineE) (sz := 3) (b := b8) (u := l) (fun _ => rfl) (by decide) rfl zpk zpk (by kernel_rfl) fun G2 g2 r2 => ?_
    have g12 := Rd.grow_tr g1 g2
    refine WL_callX rfl rfl rfl (fun W hW => line_moved l a 148 [ptrV b10, ptrV b8] (fun i => (i + byR n l.long) % l.long) G2 W (hW.le zpk) (ha.mono g12.1) ga hd hfr l1 l2 l3 fun i W' hi hl => rot_from l (byR n l.long) i b10 b8 hi (hby hi) l2 G2 W' hl (r1.mono g2.1) r2) ?_
    rintro z _
    dsimp only [List.cons_append, List.nil_append]
    ((repeat' (first|refine zza ?_|refine zc9 ?_|refine zzb fun w hw => ?_|refine zzh fun _ => ?_|refine zzi fun _ _ => ?_|refine zu1 ?_|refine zu2 ?_|refine zu3 ?_|refine zu4 fun _ => ?_|refine zzj (fun _ => ?_) fun _ => ?_)); (repeat' (refine CW_seq ?_; (repeat' (first|refine zza ?_|refine zc9 ?_|refine zzb fun w hw => ?_|refine zzh fun _ => ?_|refine zzi fun _ _ => ?_|refine zu1 ?_|refine zu2 ?_|refine zu3 ?_|refine zu4 fun _ => ?_|refine zzj (fun _ => ?_) fun _ => ?_)))))
    refine EX_retK2 (b := b6) rfl rfl rfl rfl zpk rfl fun w' hw => ?_
    exact ResT.up g12 (ResT.ofO (x := ⟨a.char, a.shape.xs, movedL a.data.xs l (fun i => (i + byR n l.long) % l.long) l.outer⟩) (z := z) (hw.ent (Ent.cons zpk (Ent.cons zpk (Ent.cons zpk Ent.nil)))) hsI fun x hx => hdI x (movedL_mem hx))
  · have hbv : byR n l.long = 0 := by unfold byR; exact if_neg hl
    ((repeat' (first|refine zza ?_|refine zc9 ?_|refine zzb fun w hw => ?_|refine zzh fun _ => ?_|refine zzi fun _ _ => ?_|refine zu1 ?_|refine zu2 ?_|refine zu3 ?_|refine zu4 fun _ => ?_|refine zzj (fun _ => ?_) fun _ => ?_)); (repeat' (refine CW_seq ?_; (repeat' (first|refine zza ?_|refine zc9 ?_|refine zzb fun w hw => ?_|refine zzh fun _ => ?_|refine zzi fun _ _ => ?_|refine zu1 ?_|refine zu2 ?_|refine zu3 ?_|refine zu4 fun _ => ?_|refine zzj (fun _ => ?_) fun _ => ?_)))))
    rename_i b8 b10
    refine WL_rowB (enc := fun v : Value => [v]) (sz := 1) (b := b10) (u := .int .i64 ((byR n l.long : Nat) : Int)) (fun _ => rfl) (by decide) rfl zpk zpk (by rw [hbv]; kernel_rfl) fun G1 g1 r1 => ?_
    refine WL_rowB (enc := lineE) (sz := 3) (b := b8) (u := l) (fun _ => rfl) (by decide) rfl zpk zpk (by kernel_rfl) fun G2 g2 r2 => ?_
    have g12 := Rd.grow_tr g1 g2
    refine WL_callX rfl rfl rfl (fun W hW => line_moved l a 148 [ptrV b10, ptrV b8] (fun i => (i + byR n l.long) % l.long) G2 W (hW.le zpk) (ha.mono g12.1) ga hd hfr l1 l2 l3 fun i W' hi hl => rot_from l (byR n l.long) i b10 b8 hi (hby hi) l2 G2 W' hl (r1.mono g2.1) r2) ?_
    rintro z _
    dsimp only [List.cons_append, List.nil_append]
    ((repeat' (first|refine zza ?_|refine zc9 ?_|refine zzb fun w hw => ?_|refine zzh fun _ => ?_|refine zzi fun _ _ => ?_|refine zu1 ?_|refine zu2 ?_|refine zu3 ?_|refine zu4 fun _ => ?_|refine zzj (fun _ => ?_) fun _ => ?_)); (repeat' (refine CW_seq ?_; (repeat' (first|refine zza ?_|refine zc9 ?_|refine zzb fun w hw => ?_|refine zzh fun _ => ?_|refine zzi fun _ _ => ?_|refine zu1 ?_|refine zu2 ?_|refine zu3 ?_|refine zu4 fun _ => ?_|refine zzj (fun _ => ?_) fun _ => ?_)))))
    refine EX_retK2 (b := b6) rfl rfl rfl rfl zpk rfl fun w' hw => ?_
    exact ResT.up g12 (ResT.ofO (x := ⟨a.char, a.shape.xs, movedL a.data.xs l (fun i => (i + byR n l.long) % l.long) l.outer⟩) (z := z) (hw.ent (Ent.cons zpk (Ent.cons zpk (Ent.cons zpk Ent.nil)))) hsI fun x hx => hdI x (movedL_mem hx))
end Go.Proofs.YtadlpfbjnpbnoaaGreatDoor
