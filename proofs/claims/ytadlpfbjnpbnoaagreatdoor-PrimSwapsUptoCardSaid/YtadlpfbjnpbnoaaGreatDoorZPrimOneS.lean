/-
  The package prim: prim.Two swapped.
  The package prim: prim.One swapped.
-/
import Derived.Test.YtadlpfbjnpbnoaaGreatDoorZGo
import Derived.Test.YtadlpfbjnpbnoaaGreatDoorZPrimTwo
namespace Go.Proofs.YtadlpfbjnpbnoaaGreatDoor
open Go.RowKit
section
variable {P : Program} {K : Cx} {ρ : Env} {m m0 r : List HP} {ty t : TypeId} {pos : String} {aft : Array Edge} {g : Option (Nat × Bool)} {x y : Operand} {ops : Array Oper} {rest : List Nat} {L : Act → Cl → Prop}
  {zs : List Value} {k : Nat} {listed : Array Bool} {E : List PanicEntry → World → Prop} {fs : List (Nat × Nat)}
/-- one cell that no operation of a region turns, though the block about it is turned -/
def cel (a : Addr) (v : Value) : HP where
  p w fp := fp = [a.block] ∧ w.cell? a = some v
  st w w' fp h := by
    rintro ⟨rfl, hc⟩
    refine ⟨rfl, ?_⟩
    have h1 := h a.block (by simp)
    unfold World.cell? at hc ⊢
    rw [h1]
    exact hc
  lt w fp := by
    rintro ⟨rfl, hc⟩ i hi
    have : i = a.block := by simpa using hi
    subst this
    refine Nat.lt_of_not_le fun hle => ?_
    unfold World.cell? at hc
    rw [Array.getElem?_eq_none hle] at hc
    cases hc
theorem rd_cel {a : Addr} {v : Value} (hp : Pick m (cel a v) r) : RdC K m a [v] := fun w hw j u hu => by
  obtain ⟨fp, ho, _⟩ := hw.own
  obtain ⟨f1, f2, _, ⟨_, h1⟩, _⟩ := hp.own ho
  cases j with
  | zero =>
    cases hu
    rw [show a.add 0 = a by cases a; unfold Addr.add; split <;> simp_all]
    exact h1
  | succ j => simp at hu
theorem Ent.cel {m r m' : List HP} {b i : Nat} {T : TypeId} {cs : Array Value} {v : Value} (hp : Pick m (blk b T cs) r) (hi : cs[i]? = some v) (k : Ent r m') : Ent m (cel ⟨b, i, none⟩ v :: m') := fun fp w ho => by
  obtain ⟨f1, f2, he, ⟨e1, hb⟩, k2, kd⟩ := hp.own ho
  obtain ⟨f3, h3, hs⟩ := k f2 w k2
  refine ⟨f1 ++ f3, ⟨f1, f3, rfl, ⟨e1, ?_⟩, h3, fun i hi h => kd i hi (hs i h)⟩, fun i hi => ?_⟩
  · unfold World.cell?
    rw [hb]
    simpa using hi
  rcases List.mem_append.1 hi with hi | hi
  · exact (he i).2 (.inl hi)
  · exact (he i).2 (.inr (hs i hi))
/-- a whole value, stored into a block, in a region walked in a told order -/
theorem WP_storeW {pm : List HP} {b i : Nat} {T : TypeId} {cs : Array Value} [S : StT P t fs zs] {vs : List Value} (hk : ops[k]? = some ⟨none, .store t x y, ty, pos, aft, g⟩) (hso : soleB .any ops listed k = true) (hx : opv ρ x = some (.pointer (some ⟨b, i, none⟩))) (hy : opv ρ y = some (.agg vs.toArray)) (h1 : vs.all Value.oneCell' = true) (hp : Pick m (blk b T cs) r) (hr : Ent (blk b T (setL cs i vs) :: r) (pm ++ m0))
    (hl : Nat.beq vs.length zs.length = true) (hi : Nat.ble (i + vs.length) cs.toList.length = true)
    (hg : guardB ops g ρ = some true) (hn : guardN K.N ops g = true) (k' : WP P K E ops L m0 rest (listed.setIfInBounds k true) ρ (blk b T (setL cs i vs) :: r)) :
    WP P K E ops L m0 (k :: rest) listed ρ m := by
  refine ⟨fun a hf => ?_⟩
  unfold wpHeadP
  rw [hk]
  simp only
  unfold headP
  rw [if_pos (guard_wanted hf hg (guardN_spec hn))]
  have hl := Nat.eq_of_beq_eq_true hl
  have hi := Nat.le_of_ble_eq_true hi
  refine .inr ⟨hso, Unit, fun _ => undef, fun _ => Holds K.w0 K.F (blk b T (setL cs i vs) :: r), fun _ => Holds.closed _ _ _, fun _ W hW => (hW.ent hr).drop, fun w hm => ?_, fun _ => k'.run _ (hf.put_none _)⟩
  obtain ⟨w', h2, h3⟩ := run_cells (P := P) (r := r) (off := i) (T := T) vs 0 cs w (hm.ent (Ent.cons hp Ent.refl)) (by simpa using hi) h1
  have h4 : (execOp a.eval ⟨none, .store t x y, ty, pos, aft, g⟩).run P w = .ok .skip w' := by
    simp only [execOp, hf.eval hx, hf.eval hy]
    simp [Instr.storeAt, Instr.sureAddr, storeVar, S.size w, Value.cells, hl, h2]
  rw [h4]
  exact ⟨rfl, (), h3⟩
end
set_option maxHeartbeats 16000000 in
set_option maxRecDepth 100000 in
theorem two_swap (f g : Int) (a b : ArrM) (G : Rd) (w : World) (hS : Rd.le G w.cell?) (ha : ArrG G a) (hb : ArrG G b) (h1 : a.arr.bad = 0) (h2 : b.arr.bad = 0) :
    Calls Tryz.prog 7 #[actV 5 f g, arrV a, arrV b] w (ResT (plainF f b.arr a.arr) G w) := by
  refine enterR (args := [_, _, _]) (m := []) (F := []) hS.sub rfl Tryz.func7 rfl Tryz.ntmps7 (by simp) ?_
  clear hS
  have hK := fun W => prim_knownTwo 5 f g W
  rw [show knownTwoF 5 f g = plainTwo f from rfl] at hK
  have hA := fun W (h : Rd.le G W.cell?) => chk a G W ha h
  have hB := fun W (h : Rd.le G W.cell?) => chk b G W hb h
  rw [h1, errV_zero] at hA
  rw [h2, errV_zero] at hB
  unfold plainF
  ((repeat' (first|refine zza ?_|refine zc9 ?_|refine zzb fun w hw => ?_|refine zzh fun _ => ?_|refine zzi fun _ _ => ?_|refine zu1 ?_|refine zu2 ?_|refine zu3 ?_|refine zu4 fun _ => ?_|refine zzj (fun _ => ?_) fun _ => ?_)); (repeat' (refine CW_seq ?_; (repeat' (first|refine zza ?_|refine zc9 ?_|refine zzb fun w hw => ?_|refine zzh fun _ => ?_|refine zzi fun _ _ => ?_|refine zu1 ?_|refine zu2 ?_|refine zu3 ?_|refine zu4 fun _ => ?_|refine zzj (fun _ => ?_) fun _ => ?_)))))
  rename_i b3 b4 b5 b6
  refine WL_callV rfl rfl rfl (fun W _ => hK W) ?_
  cases hp : plainTwo f with
  | false =>
    rw [if_pos rfl]
    ((repeat' (first|refine zza ?_|refine zc9 ?_|refine zzb fun w hw => ?_|refine zzh fun _ => ?_|refine zzi fun _ _ => ?_|refine zu1 ?_|refine zu2 ?_|refine zu3 ?_|refine zu4 fun _ => ?_|refine zzj (fun _ => ?_) fun _ => ?_)); (repeat' (refine CW_seq ?_; (repeat' (first|refine zza ?_|refine zc9 ?_|refine zzb fun w hw => ?_|refine zzh fun _ => ?_|refine zzi fun _ _ => ?_|refine zu1 ?_|refine zu2 ?_|refine zu3 ?_|refine zu4 fun _ => ?_|refine zzj (fun _ => ?_) fun _ => ?_)))))
    refine EX_retK2 (b := b6) rfl rfl rfl rfl zpk rfl fun w' hw => ?_
    exact ResT.err (by decide) (hw.ent (Ent.cons zpk Ent.nil))
  | true =>
    rw [if_neg (by simp)]
    ((repeat' (first|refine zza ?_|refine zzb fun w hw => ?_|refine zzh fun _ => ?_|refine zzi fun _ _ => ?_|refine zu1 ?_|refine zu2 ?_|refine zu4 fun _ => ?_|refine zzj (fun _ => ?_) fun _ => ?_)); (repeat' (refine CW_seq ?_; (repeat' (first|refine zza ?_|refine zzb fun w hw => ?_|refine zzh fun _ => ?_|refine zzi fun _ _ => ?_|refine zu1 ?_|refine zu2 ?_|refine zu4 fun _ => ?_|refine zzj (fun _ => ?_) fun _ => ?_)))))
    refine CW_perm 6 [0, 1, 2, 3, 4, 5] [zB b6, boxB b5 b, boxB b4 a, cel ⟨b3, 1, none⟩ (.int .i64 f), ro w [] G] [] zcov (pm := []) (Ent.cons zpk (Ent.cons zpk (Ent.cons zpk (Ent.cel zpk rfl Ent.refl)))) (by kernel_rfl) (by decide +kernel) (by kernel_rfl) ?_
    (refine WP_op rfl rfl rfl zyi ?_)
    refine WP_op rfl rfl rfl (y_load (v := .int .i64 f) rfl (rd_cel (a := ⟨b3, 1, none⟩) zpk)) ?_
    (refine WP_op rfl rfl rfl zyi ?_)
    (refine WP_op rfl rfl rfl zyi ?_)
    (refine WP_op rfl rfl rfl zyi ?_)
    refine WP_storeW (pm := []) rfl (by kernel_rfl) rfl rfl rfl zpk (Ent.cons zpk (Ent.cons zpk (Ent.cons zpk (Ent.cel zpk rfl Ent.refl)))) rfl rfl rfl rfl ?_
    refine WP_end ?_
    ((repeat' (first|refine zza ?_|refine zc9 ?_|refine zzb fun w hw => ?_|refine zzh fun _ => ?_|refine zzi fun _ _ => ?_|refine zu1 ?_|refine zu2 ?_|refine zu3 ?_|refine zu4 fun _ => ?_|refine zzj (fun _ => ?_) fun _ => ?_)); (repeat' (refine CW_seq ?_; (repeat' (first|refine zza ?_|refine zc9 ?_|refine zzb fun w hw => ?_|refine zzh fun _ => ?_|refine zzi fun _ _ => ?_|refine zu1 ?_|refine zu2 ?_|refine zu3 ?_|refine zu4 fun _ => ?_|refine zzj (fun _ => ?_) fun _ => ?_)))))
    refine WL_callV rfl rfl rfl (fun W hW => hA W (hW.le zpk)) ?_
    refine WL_ent (m' := [zB b6, boxB b5 a, boxB b4 b, actB b3 0 f 0, ro w [] G]) zent ?_
    ((repeat' (first|refine zza ?_|refine zc9 ?_|refine zzb fun w hw => ?_|refine zzh fun _ => ?_|refine zzi fun _ _ => ?_|refine zu1 ?_|refine zu2 ?_|refine zu3 ?_|refine zu4 fun _ => ?_|refine zzj (fun _ => ?_) fun _ => ?_)); (repeat' (refine CW_seq ?_; (repeat' (first|refine zza ?_|refine zc9 ?_|refine zzb fun w hw => ?_|refine zzh fun _ => ?_|refine zzi fun _ _ => ?_|refine zu1 ?_|refine zu2 ?_|refine zu3 ?_|refine zu4 fun _ => ?_|refine zzj (fun _ => ?_) fun _ => ?_)))))
    refine WL_op rfl rfl (y_buildA rfl (fun W => arr2_build b a W)) ?_
    ((repeat' (first|refine zza ?_|refine zc9 ?_|refine zzb fun w hw => ?_|refine zzh fun _ => ?_|refine zzi fun _ _ => ?_|refine zu1 ?_|refine zu2 ?_|refine zu3 ?_|refine zu4 fun _ => ?_|refine zzj (fun _ => ?_) fun _ => ?_)); (repeat' (refine CW_seq ?_; (repeat' (first|refine zza ?_|refine zc9 ?_|refine zzb fun w hw => ?_|refine zzh fun _ => ?_|refine zzi fun _ _ => ?_|refine zu1 ?_|refine zu2 ?_|refine zu3 ?_|refine zu4 fun _ => ?_|refine zzj (fun _ => ?_) fun _ => ?_)))))
    refine CW_loopK [(3,_),(4,_),(5,_),(6,_),(37,_)] zcov (fun i : Nat => [(38, .int .i64 (i : Int))]) (fun _ => [zB b6, boxB b5 a, boxB b4 b, actB b3 0 f 0, ro w [] G]) (fun i => i ≤ 2) (fun i => 2 - i) 0 (by omega) zcov zent ?_
    intro i hi
    by_cases i0 : i = 0
    · subst i0
      clear hA hK
      ((repeat' (first|refine zza ?_|refine zc9 ?_|refine zzb fun w hw => ?_|refine zzh fun _ => ?_|refine zzi fun _ _ => ?_|refine zu1 ?_|refine zu2 ?_|refine zu3 ?_|refine zu4 fun _ => ?_|refine zzj (fun _ => ?_) fun _ => ?_)); (repeat' (refine CW_seq ?_; (repeat' (first|refine zza ?_|refine zc9 ?_|refine zzb fun w hw => ?_|refine zzh fun _ => ?_|refine zzi fun _ _ => ?_|refine zu1 ?_|refine zu2 ?_|refine zu3 ?_|refine zu4 fun _ => ?_|refine zzj (fun _ => ?_) fun _ => ?_)))))
      refine WL_op rfl rfl (y_indexA rfl rfl (fun W => arr2_index0 _ _ _ _ _ _ W)) ?_
      ((repeat' (first|refine zza ?_|refine zc9 ?_|refine zzb fun w hw => ?_|refine zzh fun _ => ?_|refine zzi fun _ _ => ?_|refine zu1 ?_|refine zu2 ?_|refine zu3 ?_|refine zu4 fun _ => ?_|refine zzj (fun _ => ?_) fun _ => ?_)); (repeat' (refine CW_seq ?_; (repeat' (first|refine zza ?_|refine zc9 ?_|refine zzb fun w hw => ?_|refine zzh fun _ => ?_|refine zzi fun _ _ => ?_|refine zu1 ?_|refine zu2 ?_|refine zu3 ?_|refine zu4 fun _ => ?_|refine zzj (fun _ => ?_) fun _ => ?_)))))
      refine WL_callV rfl rfl rfl (fun W hW => hB W (hW.le zpk)) ?_
      ((repeat' (first|refine zza ?_|refine zc9 ?_|refine zzb fun w hw => ?_|refine zzh fun _ => ?_|refine zzi fun _ _ => ?_|refine zu1 ?_|refine zu2 ?_|refine zu3 ?_|refine zu4 fun _ => ?_|refine zzj (fun _ => ?_) fun _ => ?_)); (repeat' (refine CW_seq ?_; (repeat' (first|refine zza ?_|refine zc9 ?_|refine zzb fun w hw => ?_|refine zzh fun _ => ?_|refine zzi fun _ _ => ?_|refine zu1 ?_|refine zu2 ?_|refine zu3 ?_|refine zu4 fun _ => ?_|refine zzj (fun _ => ?_) fun _ => ?_)))))
      exact EX_loop' 1 ⟨zcov, zent, by omega, by omega⟩
    by_cases i1 : i = 1
    · subst i1
      clear hB hK
      ((repeat' (first|refine zza ?_|refine zc9 ?_|refine zzb fun w hw => ?_|refine zzh fun _ => ?_|refine zzi fun _ _ => ?_|refine zu1 ?_|refine zu2 ?_|refine zu3 ?_|refine zu4 fun _ => ?_|refine zzj (fun _ => ?_) fun _ => ?_)); (repeat' (refine CW_seq ?_; (repeat' (first|refine zza ?_|refine zc9 ?_|refine zzb fun w hw => ?_|refine zzh fun _ => ?_|refine zzi fun _ _ => ?_|refine zu1 ?_|refine zu2 ?_|refine zu3 ?_|refine zu4 fun _ => ?_|refine zzj (fun _ => ?_) fun _ => ?_)))))
      refine WL_op rfl rfl (y_indexA rfl rfl (fun W => arr2_index1 _ _ _ _ _ _ W)) ?_
      ((repeat' (first|refine zza ?_|refine zc9 ?_|refine zzb fun w hw => ?_|refine zzh fun _ => ?_|refine zzi fun _ _ => ?_|refine zu1 ?_|refine zu2 ?_|refine zu3 ?_|refine zu4 fun _ => ?_|refine zzj (fun _ => ?_) fun _ => ?_)); (repeat' (refine CW_seq ?_; (repeat' (first|refine zza ?_|refine zc9 ?_|refine zzb fun w hw => ?_|refine zzh fun _ => ?_|refine zzi fun _ _ => ?_|refine zu1 ?_|refine zu2 ?_|refine zu3 ?_|refine zu4 fun _ => ?_|refine zzj (fun _ => ?_) fun _ => ?_)))))
      refine WL_callV rfl rfl rfl (fun W hW => hA W (hW.le zpk)) ?_
      ((repeat' (first|refine zza ?_|refine zc9 ?_|refine zzb fun w hw => ?_|refine zzh fun _ => ?_|refine zzi fun _ _ => ?_|refine zu1 ?_|refine zu2 ?_|refine zu3 ?_|refine zu4 fun _ => ?_|refine zzj (fun _ => ?_) fun _ => ?_)); (repeat' (refine CW_seq ?_; (repeat' (first|refine zza ?_|refine zc9 ?_|refine zzb fun w hw => ?_|refine zzh fun _ => ?_|refine zzi fun _ _ => ?_|refine zu1 ?_|refine zu2 ?_|refine zu3 ?_|refine zu4 fun _ => ?_|refine zzj (fun _ => ?_) fun _ => ?_)))))
      exact EX_loop' 2 ⟨zcov, zent, by omega, by omega⟩
    obtain rfl : i = 2 := by omega
    clear i0 i1 hi hA hB hK
    cases hl : listy f with
    | true =>
      rw [if_pos rfl]
      have hL := fun W (h : Rd.le G W.cell?) => by_List f hl b a G W h hb ha h2 h1
      obtain ⟨L, hLe⟩ : ∃ L, L = byListF f b.arr a.arr := ⟨_, rfl⟩
      rw [← hLe] at hL ⊢
      clear hLe
      have hf := of_decide_eq_true hl
      clear hl
      rcases hf with rfl | rfl | rfl | rfl | rfl | rfl | rfl | rfl
      all_goals
        ((repeat' (first|refine zza ?_|refine zc9 ?_|refine zzb fun w hw => ?_|refine zzh fun _ => ?_|refine zzi fun _ _ => ?_|refine zu1 ?_|refine zu2 ?_|refine zu3 ?_|refine zu4 fun _ => ?_|refine zzj (fun _ => ?_) fun _ => ?_)); (repeat' (refine CW_seq ?_; (repeat' (first|refine zza ?_|refine zc9 ?_|refine zzb fun w hw => ?_|refine zzh fun _ => ?_|refine zzi fun _ _ => ?_|refine zu1 ?_|refine zu2 ?_|refine zu3 ?_|refine zu4 fun _ => ?_|refine zzj (fun _ => ?_) fun _ => ?_)))))
        refine WL_callT (r := [zB b6, boxB b4 b, boxB b5 a, actB b3 0 _ 0]) zent rfl rfl rfl (fun W hW => hL W (fun x u e => (hW x u e).1)) ?_
        rintro z G2 hz g2
        ((repeat' (first|refine zza ?_|refine zc9 ?_|refine zzb fun w hw => ?_|refine zzh fun _ => ?_|refine zzi fun _ _ => ?_|refine zu1 ?_|refine zu2 ?_|refine zu3 ?_|refine zu4 fun _ => ?_|refine zzj (fun _ => ?_) fun _ => ?_)); (repeat' (refine CW_seq ?_; (repeat' (first|refine zza ?_|refine zc9 ?_|refine zzb fun w hw => ?_|refine zzh fun _ => ?_|refine zzi fun _ _ => ?_|refine zu1 ?_|refine zu2 ?_|refine zu3 ?_|refine zu4 fun _ => ?_|refine zzj (fun _ => ?_) fun _ => ?_)))))
        refine EX_retK2 (b := b6) rfl rfl rfl rfl zpk rfl fun w' hw => ?_
        exact ⟨z, G2, hz, rfl, g2, hw.ent (Ent.cons zpk Ent.nil)⟩
    | false =>
      rw [if_neg (by simp)]
      have hL := fun W (h : Rd.le G W.cell?) => by_Both f b a G W h hb ha h2 h1
      obtain ⟨L, hLe⟩ : ∃ L, L = byBothF f b.arr a.arr := ⟨_, rfl⟩
      rw [← hLe] at hL ⊢
      clear hLe
      have hf := of_decide_eq_false hl
      clear hl
      have q1 : f ≠ 18 := fun h => hf (by omega)
      have q2 : f ≠ 22 := fun h => hf (by omega)
      have q3 : f ≠ 23 := fun h => hf (by omega)
      have q4 : f ≠ 33 := fun h => hf (by omega)
      have q5 : f ≠ 34 := fun h => hf (by omega)
      have q6 : f ≠ 20 := fun h => hf (by omega)
      have q7 : f ≠ 30 := fun h => hf (by omega)
      have q8 : f ≠ 31 := fun h => hf (by omega)
      ((repeat' (first|refine zza ?_|refine zc9 ?_|refine zzb fun w hw => ?_|refine zzh fun _ => ?_|refine zzi fun _ _ => ?_|refine zu1 ?_|refine zu2 ?_|refine zu3 ?_|refine zu4 fun _ => ?_|refine zzj (fun _ => ?_) fun _ => ?_)); (repeat' (refine CW_seq ?_; (repeat' (first|refine zza ?_|refine zc9 ?_|refine zzb fun w hw => ?_|refine zzh fun _ => ?_|refine zzi fun _ _ => ?_|refine zu1 ?_|refine zu2 ?_|refine zu3 ?_|refine zu4 fun _ => ?_|refine zzj (fun _ => ?_) fun _ => ?_)))))
      refine WL_callT (r := [zB b6, boxB b4 b, boxB b5 a, actB b3 0 _ 0]) zent rfl rfl rfl (fun W hW => hL W (fun x u e => (hW x u e).1)) ?_
      rintro z G2 hz g2
      ((repeat' (first|refine zza ?_|refine zc9 ?_|refine zzb fun w hw => ?_|refine zzh fun _ => ?_|refine zzi fun _ _ => ?_|refine zu1 ?_|refine zu2 ?_|refine zu3 ?_|refine zu4 fun _ => ?_|refine zzj (fun _ => ?_) fun _ => ?_)); (repeat' (refine CW_seq ?_; (repeat' (first|refine zza ?_|refine zc9 ?_|refine zzb fun w hw => ?_|refine zzh fun _ => ?_|refine zzi fun _ _ => ?_|refine zu1 ?_|refine zu2 ?_|refine zu3 ?_|refine zu4 fun _ => ?_|refine zzj (fun _ => ?_) fun _ => ?_)))))
      refine EX_retK2 (b := b6) rfl rfl rfl rfl zpk rfl fun w' hw => ?_
      exact ⟨z, G2, hz, rfl, g2, hw.ent (Ent.cons zpk Ent.nil)⟩
end Go.Proofs.YtadlpfbjnpbnoaaGreatDoor
namespace Go.Proofs.YtadlpfbjnpbnoaaGreatDoor
open Go.RowKit
set_option maxHeartbeats 16000000 in
set_option maxRecDepth 100000 in
theorem knownOne_swap (f g : Int) (w : World) : Calls Tryz.prog 54 #[actV 5 f g] w fun e w' => e = .returned (.bool (plainTwo f)) ∧ Below w.heap.size w w' := by
  refine enter (args := [_]) (m := []) (F := []) Tryz.func54 rfl Tryz.ntmps54 (by simp) rfl ?_
  ((repeat' (first|refine zza ?_|refine zc9 ?_|refine zzb fun w hw => ?_|refine zzh fun _ => ?_|refine zzi fun _ _ => ?_|refine zu1 ?_|refine zu2 ?_|refine zu3 ?_|refine zu4 fun _ => ?_|refine zzj (fun _ => ?_) fun _ => ?_)); (repeat' (refine CW_seq ?_; (repeat' (first|refine zza ?_|refine zc9 ?_|refine zzb fun w hw => ?_|refine zzh fun _ => ?_|refine zzi fun _ _ => ?_|refine zu1 ?_|refine zu2 ?_|refine zu3 ?_|refine zu4 fun _ => ?_|refine zzj (fun _ => ?_) fun _ => ?_)))))
  refine WL_callV rfl rfl rfl (fun W hW => known_plain f 0 W) ?_
  ((repeat' (first|refine zza ?_|refine zc9 ?_|refine zzb fun w hw => ?_|refine zzh fun _ => ?_|refine zzi fun _ _ => ?_|refine zu1 ?_|refine zu2 ?_|refine zu3 ?_|refine zu4 fun _ => ?_|refine zzj (fun _ => ?_) fun _ => ?_)); (repeat' (refine CW_seq ?_; (repeat' (first|refine zza ?_|refine zc9 ?_|refine zzb fun w hw => ?_|refine zzh fun _ => ?_|refine zzi fun _ _ => ?_|refine zu1 ?_|refine zu2 ?_|refine zu3 ?_|refine zu4 fun _ => ?_|refine zzj (fun _ => ?_) fun _ => ?_)))))
  exact ⟨rfl, hw.below⟩
set_option maxHeartbeats 16000000 in
set_option maxRecDepth 100000 in
theorem one_swap (f g : Int) (a : ArrM) (G : Rd) (w : World) (hS : Rd.le G w.cell?) (ha : ArrG G a) (h1 : a.arr.bad = 0) :
    Calls Tryz.prog 10 #[actV 5 f g, arrV a] w (ResT (plainF f a.arr a.arr) G w) := by
  refine enterR (args := [_, _]) (m := []) (F := []) hS.sub rfl Tryz.func10 rfl Tryz.ntmps10 (by simp) ?_
  clear hS
  have hK := fun W => knownOne_swap f g W
  have hA := fun W (h : Rd.le G W.cell?) => chk a G W ha h
  rw [h1, errV_zero] at hA
  obtain ⟨L, hL⟩ : ∃ L, L = plainF f a.arr a.arr := ⟨_, rfl⟩
  have hT := fun W (h : Rd.le G W.cell?) => two_plain f 0 a a G W h ha ha h1 h1
  rw [← hL] at hT ⊢
  ((repeat' (first|refine zza ?_|refine zc9 ?_|refine zzb fun w hw => ?_|refine zzh fun _ => ?_|refine zzi fun _ _ => ?_|refine zu1 ?_|refine zu2 ?_|refine zu3 ?_|refine zu4 fun _ => ?_|refine zzj (fun _ => ?_) fun _ => ?_)); (repeat' (refine CW_seq ?_; (repeat' (first|refine zza ?_|refine zc9 ?_|refine zzb fun w hw => ?_|refine zzh fun _ => ?_|refine zzi fun _ _ => ?_|refine zu1 ?_|refine zu2 ?_|refine zu3 ?_|refine zu4 fun _ => ?_|refine zzj (fun _ => ?_) fun _ => ?_)))))
  rename_i b2 b3 b4
  refine WL_callV rfl rfl rfl (fun W _ => hK W) ?_
  cases hp : plainTwo f with
  | false =>
    rw [show L = (1, zeroA) by rw [hL]; unfold plainF; rw [if_pos hp]]
    clear hL hT hA hK
    ((repeat' (first|refine zza ?_|refine zc9 ?_|refine zzb fun w hw => ?_|refine zzh fun _ => ?_|refine zzi fun _ _ => ?_|refine zu1 ?_|refine zu2 ?_|refine zu3 ?_|refine zu4 fun _ => ?_|refine zzj (fun _ => ?_) fun _ => ?_)); (repeat' (refine CW_seq ?_; (repeat' (first|refine zza ?_|refine zc9 ?_|refine zzb fun w hw => ?_|refine zzh fun _ => ?_|refine zzi fun _ _ => ?_|refine zu1 ?_|refine zu2 ?_|refine zu3 ?_|refine zu4 fun _ => ?_|refine zzj (fun _ => ?_) fun _ => ?_)))))
    refine EX_retK2 (b := b4) rfl rfl rfl rfl zpk rfl fun w' hw => ?_
    exact ResT.err (by decide) (hw.ent (Ent.cons zpk Ent.nil))
  | true =>
    clear hL hK
    ((repeat' (first|refine zza ?_|refine zc9 ?_|refine zzb fun w hw => ?_|refine zzh fun _ => ?_|refine zzi fun _ _ => ?_|refine zu1 ?_|refine zu2 ?_|refine zu3 ?_|refine zu4 fun _ => ?_|refine zzj (fun _ => ?_) fun _ => ?_)); (repeat' (refine CW_seq ?_; (repeat' (first|refine zza ?_|refine zc9 ?_|refine zzb fun w hw => ?_|refine zzh fun _ => ?_|refine zzi fun _ _ => ?_|refine zu1 ?_|refine zu2 ?_|refine zu3 ?_|refine zu4 fun _ => ?_|refine zzj (fun _ => ?_) fun _ => ?_)))))
    refine WL_callV rfl rfl rfl (fun W hW => hA W (hW.le zpk)) ?_
    ((repeat' (first|refine zza ?_|refine zc9 ?_|refine zzb fun w hw => ?_|refine zzh fun _ => ?_|refine zzi fun _ _ => ?_|refine zu1 ?_|refine zu2 ?_|refine zu3 ?_|refine zu4 fun _ => ?_|refine zzj (fun _ => ?_) fun _ => ?_)); (repeat' (refine CW_seq ?_; (repeat' (first|refine zza ?_|refine zc9 ?_|refine zzb fun w hw => ?_|refine zzh fun _ => ?_|refine zzi fun _ _ => ?_|refine zu1 ?_|refine zu2 ?_|refine zu3 ?_|refine zu4 fun _ => ?_|refine zzj (fun _ => ?_) fun _ => ?_)))))
    refine WL_callV rfl rfl rfl (fun W _ => prim_last a W (show a.shape.xs.length ≤ 6 from (Arr.good h1).rank)) ?_
    ((repeat' (first|refine zza ?_|refine zc9 ?_|refine zzb fun w hw => ?_|refine zzh fun _ => ?_|refine zzi fun _ _ => ?_|refine zu1 ?_|refine zu2 ?_|refine zu3 ?_|refine zu4 fun _ => ?_|refine zzj (fun _ => ?_) fun _ => ?_)); (repeat' (refine CW_seq ?_; (repeat' (first|refine zza ?_|refine zc9 ?_|refine zzb fun w hw => ?_|refine zzh fun _ => ?_|refine zzi fun _ _ => ?_|refine zu1 ?_|refine zu2 ?_|refine zu3 ?_|refine zu4 fun _ => ?_|refine zzj (fun _ => ?_) fun _ => ?_)))))
    refine WL_callT (r := [zB b4, boxB b3 a, actB b2 5 f g]) zent rfl rfl rfl (fun W hW => hT W (fun x u e => (hW x u e).1)) ?_
    rintro z G2 hz g2
    ((repeat' (first|refine zza ?_|refine zc9 ?_|refine zzb fun w hw => ?_|refine zzh fun _ => ?_|refine zzi fun _ _ => ?_|refine zu1 ?_|refine zu2 ?_|refine zu3 ?_|refine zu4 fun _ => ?_|refine zzj (fun _ => ?_) fun _ => ?_)); (repeat' (refine CW_seq ?_; (repeat' (first|refine zza ?_|refine zc9 ?_|refine zzb fun w hw => ?_|refine zzh fun _ => ?_|refine zzi fun _ _ => ?_|refine zu1 ?_|refine zu2 ?_|refine zu3 ?_|refine zu4 fun _ => ?_|refine zzj (fun _ => ?_) fun _ => ?_)))))
    refine EX_retK2 (b := b4) rfl rfl rfl rfl zpk rfl fun w' hw => ?_
    exact ⟨z, G2, hz, rfl, g2, hw.ent (Ent.cons zpk Ent.nil)⟩
end Go.Proofs.YtadlpfbjnpbnoaaGreatDoor
