/-
  The logic of walks: several results, of which the first lies in a variable.
  The logic of walks: a block as a slice of the call's own.
  ravelinref3: are a node's fields right?
-/
import Derived.Test.YtngeooflfkpikaaGreatDoorYGo
import Derived.Test.YtngeooflfkpikaaGreatDoorYOpenIns
import Derived.Test.YtngeooflfkpikaaGreatDoorYRefSpelt
namespace Go.Proofs.YtngeooflfkpikaaGreatDoor
open Go.RowKit
section
variable {P : Program} {K : Cx} {ρ : Env} {m r : List HP} {ty : TypeId} {fs : List (Nat × Nat)} {zs : List Value}
/-- a cut ahead of what stands behind a loop -/
theorem CW_midB {X : Type} {id : Nat} {Q : Exit → Act → World → Prop} (kp : Env) (_hk : Cov ρ kp) (R : X → Env) (I : X → Prop) {x y : Code} (h : CW P K (QBlk id (QMid K (fun z => R z ++ kp) (fun _ => m) I Q)) x ρ m) (k : ∀ z, I z → CW P K Q y (R z ++ kp) m) : CW P K (QBlk id (QSeq P y Q)) x ρ m := by
  have key : ∀ e a w, QMid K (fun z => R z ++ kp) (fun _ => m) I Q e a w → QSeq P y Q e a w := by
    intro e a w hq
    cases e <;> first
      | exact hq
      | (obtain ⟨z, hz, hzf, hzm⟩ := hq; exact (k z hz).run _ _ hzf hzm)
  refine ⟨fun a w hf hm => wp_mono (h.run a w hf hm) fun e a' w' hq => ?_⟩
  unfold QBlk Exit.inBlock at hq ⊢
  cases e <;> first
    | exact key _ _ _ hq
    | (dsimp only at hq ⊢; split at hq <;> (rename_i he; first | rw [if_pos he] | rw [if_neg he]) <;> exact key _ _ _ hq)
/-- a block, its cells told anew (by kernel_rfl) -/
theorem Ent.consK {b b' : Nat} {T : TypeId} {cs cs' : Array Value} {m' : List HP} (hp : Pick m (blk b T cs) r) (hb : b = b' := by rfl) (e : cs = cs' := by kernel_rfl) (k : Ent r m') : Ent m (blk b' T cs' :: m') := hb ▸ e ▸ Ent.cons hp k
theorem rd_slI {e : TypeId} {n c i : Nat} {p : Option Addr} {xs : List Int} (hp : Pick m (sl e 1 p n c (xs.map (Value.int .i64))) r) (hi : i < xs.length) : RdC K m (addrAt p i) [.int .i64 (xs.getD i 0)] :=
  rd_own1 hp (by rw [List.getElem?_map, List.getD_eq_getElem?_getD, List.getElem?_eq_getElem hi]; rfl)
theorem zv1 {ops : Array Oper} {Q : Exit → Act → World → Prop} {rest : List Oper} {d : Nat} {t : TypeId} {pos : String} {aft : Array Edge} {g : Option (Nat × Bool)} {x : Operand} {e : TypeId} {n c i : Nat} {p : Option Addr} {xs : List Int} (k : WL P K ops Q rest ((d, .int .i64 (xs.getD i 0)) :: ρ) m) (hx : opv ρ x = some (.pointer (some (addrAt p i))) := by rfl) (hp : Pick m (sl e 1 p n c (xs.map (Value.int .i64))) r := by (first | exact .here | exact .there .here | exact .there (.there .here) | exact .there (.there (.there .here)) | exact .there (.there (.there (.there .here))) | exact .there (.there (.there (.there (.there .here)))))) (hi : i < xs.length := by omega) (hg : guardB ops g ρ = some true := by rfl) (hN : (guardN K.N ops g && Nat.blt d K.N) = true := by rfl) [S : NAgg P t] : WL P K ops Q (⟨some d, .load t x, ty, pos, aft, g⟩ :: rest) ρ m := WL_op hg hN (y_load hx (rd_slI hp hi)) k
theorem zv2 {ops : Array Oper} {L : Act → Prop} {rest : List Oper} {d : Nat} {t : TypeId} {pos : String} {aft : Array Edge} {g : Option (Nat × Bool)} {x : Operand} {e : TypeId} {n c i : Nat} {p : Option Addr} {xs : List Int} (k : WQ P K ops L rest ((d, .int .i64 (xs.getD i 0)) :: ρ) m) (hx : opv ρ x = some (.pointer (some (addrAt p i))) := by rfl) (hp : Pick m (sl e 1 p n c (xs.map (Value.int .i64))) r := by (first | exact .here | exact .there .here | exact .there (.there .here) | exact .there (.there (.there .here)) | exact .there (.there (.there (.there .here))) | exact .there (.there (.there (.there (.there .here)))))) (hi : i < xs.length := by omega) (hg : guardB ops g ρ = some true := by rfl) (hN : (guardN K.N ops g && Nat.blt d K.N) = true := by rfl) [S : NAgg P t] : WQ P K ops L (⟨some d, .load t x, ty, pos, aft, g⟩ :: rest) ρ m := WQ_op hg hN (y_load hx (rd_slI hp hi)) k
end
end Go.Proofs.YtngeooflfkpikaaGreatDoor
namespace Go.Proofs.YtngeooflfkpikaaGreatDoor
open Go.RowKit
theorem Ent.blkSl {m r m' : List HP} {b n : Nat} {e : TypeId} {cs : Array Value} {xs : List Value} (hp : Pick m (blk b e cs) r) (hc : cs = xs.toArray) (hn : xs.length = n) (hm : n ≤ 1099511627776) (kk : Ent r m') : Ent m (sl e 1 (some ⟨b, 0, none⟩) n n xs :: m') := fun fp w ho => by
  obtain ⟨f1, f2, he, ⟨rfl, hb⟩, k2, kd⟩ := hp.own ho
  obtain ⟨f3, h3, hs⟩ := kk f2 w k2
  subst hc
  refine ⟨[b] ++ f3, ⟨[b], f3, rfl, ⟨rfl, by rw [hn, Nat.mul_one], .inr ⟨b, n, _, rfl, Nat.zero_le _, hb, Nat.le_refl _, by unfold maxLen; omega, by simp [hn], by rw [Nat.mul_one, ← hn]; simp⟩⟩, h3, fun i hi h => kd i hi (hs i h)⟩, fun i hi => ?_⟩
  rcases List.mem_append.1 hi with hi | hi
  · exact (he i).2 (.inl hi)
  · exact (he i).2 (.inr (hs i hi))
end Go.Proofs.YtngeooflfkpikaaGreatDoor
namespace Go.Proofs.YtngeooflfkpikaaGreatDoor
open Go.RowKit
set_option maxRecDepth 100000 in
theorem ref_isGlyph (f : Int) (w : World) : Calls Tryz.prog 170 #[.int .i64 f] w fun e w' => e = .returned (.bool (decide (1 ≤ f ∧ f ≤ 34))) ∧ Below w.heap.size w w' := by
  refine enter (args := [_]) (m := []) (F := []) Tryz.func170 rfl Tryz.ntmps170 (by simp) rfl ?_
  (repeat' (first|refine zza ?_|refine zc9 ?_|refine zzb fun w hw => ?_|refine zzh fun _ => ?_|refine zzi fun _ _ => ?_|refine zzj (fun _ => ?_) fun _ => ?_))
  all_goals (refine ⟨congrArg (fun b => Ending.returned (.bool b)) ?_, hw.below⟩; rw [Bool.eq_iff_iff]; simp; try omega)
theorem actOk_in {a f g : Int} (h : 0 ≤ a ∧ a ≤ 5 ∧ a ≠ 4) : actOk a f g = decide (1 ≤ f ∧ f ≤ 34 ∧ g = 0) := by
  unfold actOk
  rw [if_pos (by omega)]
theorem actOk_4 {f g : Int} : actOk 4 f g = decide (1 ≤ f ∧ f ≤ 34 ∧ 1 ≤ g ∧ g ≤ 34) := rfl
theorem actOk_67 {a f g : Int} (h : a = 6 ∨ a = 7) : actOk a f g = decide (f = 0 ∧ g = 0) := by
  unfold actOk
  rw [if_neg (by omega), if_neg (by omega), if_pos h]
theorem actOk_out {a f g : Int} (h : ¬ (0 ≤ a ∧ a ≤ 7)) : actOk a f g = false := by
  unfold actOk
  rw [if_neg (by omega), if_neg (by omega), if_neg (by omega)]
set_option maxHeartbeats 8000000 in
set_option maxRecDepth 100000 in
theorem fields_act (op aop af ag n : Int) (p : Option Addr) (L c b b2 : Nat) (text : List UInt8) (Z : Bool) (hZ : Z = (actOk aop af ag && decide (0 ≤ n ∧ (n = 0 ∨ aop = 6)))) (u0 : World) :
    CW Tryz.prog ⟨147, [], u0, []⟩ (QBody Tryz.prog Tryz.f72 fun e w' => e = .returned (.bool Z) ∧ Below u0.heap.size u0 w') (cP [1, 1, 1, 1, 1, 1, 1, 1] ((Tryz.f72.body).getD .skip)) [(1, .pointer (some ⟨b, 0, none⟩)), (4, .pointer (some ⟨b2, 0, none⟩))]
      [blk b2 41 #[.int .i64 aop, .int .i64 af, .int .i64 ag], blk b 44 #[.int .i64 op, .int .i64 aop, .int .i64 af, .int .i64 ag, .int .i64 n, .slice p L c, .string ⟨text.toArray⟩]] := by
  conv =>
    pattern cP _ _
    whnf
  have hc : (0 ≤ aop ∧ aop ≤ 5 ∧ aop ≠ 4) ∨ aop = 4 ∨ aop = 6 ∨ aop = 7 ∨ ¬ (0 ≤ aop ∧ aop ≤ 7) := by omega
  have hA := fun f W => ref_isGlyph f W
  rcases hc with hin | rfl | rfl | rfl | hout
  · rw [actOk_in hin] at hZ
    (repeat' (first|refine zza ?_|refine zc9 ?_|refine zzb fun w hw => ?_|refine zzh fun _ => ?_|refine zzi fun _ _ => ?_|refine zzj (fun _ => ?_) fun _ => ?_))
    all_goals (repeat' (first | (refine CW_seq ?_; (repeat' (first|refine zza ?_|refine zc9 ?_|refine zzb fun w hw => ?_|refine zzh fun _ => ?_|refine zzi fun _ _ => ?_|refine zzj (fun _ => ?_) fun _ => ?_))) | ((apply WL_callV; rfl; rfl; rfl; (intro W hW; exact hA af W)); (repeat' (first|refine zza ?_|refine zc9 ?_|refine zzb fun w hw => ?_|refine zzh fun _ => ?_|refine zzi fun _ _ => ?_|refine zzj (fun _ => ?_) fun _ => ?_))) | ((apply WQ_callV; rfl; rfl; rfl; (intro W hW; exact hA af W)); (repeat' (first|refine zza ?_|refine zc9 ?_|refine zzb fun w hw => ?_|refine zzh fun _ => ?_|refine zzi fun _ _ => ?_|refine zzj (fun _ => ?_) fun _ => ?_)))))
    all_goals clear hA
    all_goals (refine ⟨congrArg (fun b => Ending.returned (.bool b)) ?_, hw.below⟩; subst hZ; clear hw; rw [Bool.eq_iff_iff]; first | (simp_all; done) | (simp_all; omega) | skip)
  · rw [actOk_4] at hZ
    (repeat' (first|refine zza ?_|refine zc9 ?_|refine zzb fun w hw => ?_|refine zzh fun _ => ?_|refine zzi fun _ _ => ?_|refine zzj (fun _ => ?_) fun _ => ?_))
    all_goals (repeat' (first | (refine CW_seq ?_; (repeat' (first|refine zza ?_|refine zc9 ?_|refine zzb fun w hw => ?_|refine zzh fun _ => ?_|refine zzi fun _ _ => ?_|refine zzj (fun _ => ?_) fun _ => ?_))) | ((apply WL_callV; rfl; rfl; rfl; (intro W hW; exact hA af W)); (repeat' (first|refine zza ?_|refine zc9 ?_|refine zzb fun w hw => ?_|refine zzh fun _ => ?_|refine zzi fun _ _ => ?_|refine zzj (fun _ => ?_) fun _ => ?_))) | ((apply WQ_callV; rfl; rfl; rfl; (intro W hW; exact hA af W)); (repeat' (first|refine zza ?_|refine zc9 ?_|refine zzb fun w hw => ?_|refine zzh fun _ => ?_|refine zzi fun _ _ => ?_|refine zzj (fun _ => ?_) fun _ => ?_))) | ((apply WL_callV; rfl; rfl; rfl; (intro W hW; exact hA ag W)); (repeat' (first|refine zza ?_|refine zc9 ?_|refine zzb fun w hw => ?_|refine zzh fun _ => ?_|refine zzi fun _ _ => ?_|refine zzj (fun _ => ?_) fun _ => ?_))) | ((apply WQ_callV; rfl; rfl; rfl; (intro W hW; exact hA ag W)); (repeat' (first|refine zza ?_|refine zc9 ?_|refine zzb fun w hw => ?_|refine zzh fun _ => ?_|refine zzi fun _ _ => ?_|refine zzj (fun _ => ?_) fun _ => ?_)))))
    all_goals clear hA
    all_goals (refine ⟨congrArg (fun b => Ending.returned (.bool b)) ?_, hw.below⟩; subst hZ; clear hw; rw [Bool.eq_iff_iff]; first | (simp_all; done) | (simp_all; omega) | skip)
  · rw [actOk_67 (.inl rfl)] at hZ
    clear hA
    (repeat' (first|refine zza ?_|refine zc9 ?_|refine zzb fun w hw => ?_|refine zzh fun _ => ?_|refine zzi fun _ _ => ?_|refine zzj (fun _ => ?_) fun _ => ?_))
    all_goals (repeat' (first | (refine CW_seq ?_; (repeat' (first|refine zza ?_|refine zc9 ?_|refine zzb fun w hw => ?_|refine zzh fun _ => ?_|refine zzi fun _ _ => ?_|refine zzj (fun _ => ?_) fun _ => ?_)))))
    all_goals (refine ⟨congrArg (fun b => Ending.returned (.bool b)) ?_, hw.below⟩; subst hZ; clear hw; rw [Bool.eq_iff_iff]; first | (simp_all; done) | (simp_all; omega) | skip)
  · rw [actOk_67 (.inr rfl)] at hZ
    clear hA
    (repeat' (first|refine zza ?_|refine zc9 ?_|refine zzb fun w hw => ?_|refine zzh fun _ => ?_|refine zzi fun _ _ => ?_|refine zzj (fun _ => ?_) fun _ => ?_))
    all_goals (repeat' (first | (refine CW_seq ?_; (repeat' (first|refine zza ?_|refine zc9 ?_|refine zzb fun w hw => ?_|refine zzh fun _ => ?_|refine zzi fun _ _ => ?_|refine zzj (fun _ => ?_) fun _ => ?_)))))
    all_goals (refine ⟨congrArg (fun b => Ending.returned (.bool b)) ?_, hw.below⟩; subst hZ; clear hw; rw [Bool.eq_iff_iff]; first | (simp_all; done) | (simp_all; omega) | skip)
  · rw [actOk_out hout, Bool.false_and] at hZ
    clear hA
    have hout' : aop < 0 ∨ 7 < aop := by omega
    clear hout
    rcases hout' with h | h
    · (repeat' (first|refine zza ?_|refine zc9 ?_|refine zzb fun w hw => ?_|refine zzh fun _ => ?_|refine zzi fun _ _ => ?_|refine zzj (fun _ => ?_) fun _ => ?_))
      all_goals (repeat' (first | (refine CW_seq ?_; (repeat' (first|refine zza ?_|refine zc9 ?_|refine zzb fun w hw => ?_|refine zzh fun _ => ?_|refine zzi fun _ _ => ?_|refine zzj (fun _ => ?_) fun _ => ?_)))))
      all_goals (refine ⟨congrArg (fun b => Ending.returned (.bool b)) ?_, hw.below⟩; subst hZ; clear hw; rw [Bool.eq_iff_iff]; first | (simp_all; done) | (simp_all; omega) | skip)
    · (repeat' (first|refine zza ?_|refine zc9 ?_|refine zzb fun w hw => ?_|refine zzh fun _ => ?_|refine zzi fun _ _ => ?_|refine zzj (fun _ => ?_) fun _ => ?_))
      all_goals (repeat' (first | (refine CW_seq ?_; (repeat' (first|refine zza ?_|refine zc9 ?_|refine zzb fun w hw => ?_|refine zzh fun _ => ?_|refine zzi fun _ _ => ?_|refine zzj (fun _ => ?_) fun _ => ?_)))))
      all_goals (refine ⟨congrArg (fun b => Ending.returned (.bool b)) ?_, hw.below⟩; subst hZ; clear hw; rw [Bool.eq_iff_iff]; first | (simp_all; done) | (simp_all; omega) | skip)
end Go.Proofs.YtngeooflfkpikaaGreatDoor
