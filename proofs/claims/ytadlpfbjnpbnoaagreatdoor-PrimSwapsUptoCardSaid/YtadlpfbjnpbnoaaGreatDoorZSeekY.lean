/-
  The package seek, walked: pairs of lists; Without, Meet.
-/
import Derived.Test.YtadlpfbjnpbnoaaGreatDoorZGo
import Derived.Test.YtadlpfbjnpbnoaaGreatDoorZSeekX
namespace Go.Proofs.YtadlpfbjnpbnoaaGreatDoor
open Go.RowKit
theorem badTwo_ok {a b : Arr} (h1 : a.bad = 0) (h2 : b.bad = 0) : badTwo a b = 0 := by
  unfold badTwo
  rw [if_neg (by simp [h1]), h2]
abbrev hasV (x y z : Nat) : Value := .func (.func 186) #[] #[ptrV x, ptrV y, ptrV z]
abbrev mapB (b bm : Nat) : HP := blk b 155 #[.map (some bm)]
set_option maxHeartbeats 16000000 in
set_option maxRecDepth 100000 in
theorem pair_ok (a b : ArrM) (G : Rd) (w : World) (hS : Rd.le G w.cell?) (ha : ArrG G a) (hb : ArrG G b) (h1 : a.arr.bad = 0) (h2 : b.arr.bad = 0) (h : pairE a.arr b.arr = 0) :
    Calls Tryz.prog 158 #[arrV a, arrV b] w fun e w' => ∃ z : (Nat × Nat) × Nat × Nat, True ∧ e = .returned (.tuple #[hasV z.1.1 z.1.2 z.2.1, .nilIface]) ∧ Holds w [] [mapB z.1.1 z.2.2, boxB z.1.2 a, boxB z.2.1 b, mq z.2.2 (fsts b.data.xs)] w' := by
  refine enterR (args := [_, _]) (m := []) (F := []) hS.sub rfl Tryz.func158 rfl Tryz.ntmps158 (by simp) ?_
  clear hS
  have hC := fun W (h : Rd.le G W.cell?) => seek_check a b G W h ha hb
  rw [badTwo_ok h1 h2, errV_zero] at hC
  have h7 : b.data.xs.length ≤ 4096 := (Arr.good h2).cells
  have hl : a.shape.xs.length = 1 ∧ b.shape.xs.length = 1 := by
    unfold pairE at h
    split at h
    · cases h
    · rename_i h3
      exact ⟨by show a.arr.shape.length = 1; omega, by show b.arr.shape.length = 1; omega⟩
  obtain ⟨l1, l2⟩ := hl
  clear h
  ((repeat' (first|refine zza ?_|refine zc9 ?_|refine zzb fun w hw => ?_|refine zzh fun _ => ?_|refine zzi fun _ _ => ?_|refine zu1 ?_|refine zu2 ?_|refine zu3 ?_|refine zu4 fun _ => ?_|refine zzj (fun _ => ?_) fun _ => ?_)); (repeat' (refine CW_seq ?_; (repeat' (first|refine zza ?_|refine zc9 ?_|refine zzb fun w hw => ?_|refine zzh fun _ => ?_|refine zzi fun _ _ => ?_|refine zu1 ?_|refine zu2 ?_|refine zu3 ?_|refine zu4 fun _ => ?_|refine zzj (fun _ => ?_) fun _ => ?_)))))
  rename_i b2 b3
  refine WL_callV rfl rfl rfl (fun W hW => hC W (hW.le zpk)) ?_
  clear hC
  ((repeat' (first|refine zza ?_|refine zc9 ?_|refine zzb fun w hw => ?_|refine zzh fun _ => ?_|refine zzi fun _ _ => ?_|refine zu1 ?_|refine zu2 ?_|refine zu3 ?_|refine zu4 fun _ => ?_|refine zzj (fun _ => ?_) fun _ => ?_)); (repeat' (refine CW_seq ?_; (repeat' (first|refine zza ?_|refine zc9 ?_|refine zzb fun w hw => ?_|refine zzh fun _ => ?_|refine zzi fun _ _ => ?_|refine zu1 ?_|refine zu2 ?_|refine zu3 ?_|refine zu4 fun _ => ?_|refine zzj (fun _ => ?_) fun _ => ?_)))))
  refine WL_callX rfl rfl rfl (fun W hW => seek_firsts b G W (hW.le zpk) hb h7) ?_
  rintro bm _
  dsimp only [List.cons_append, List.nil_append]
  ((repeat' (first|refine zza ?_|refine zc9 ?_|refine zzb fun w hw => ?_|refine zzh fun _ => ?_|refine zzi fun _ _ => ?_|refine zu1 ?_|refine zu2 ?_|refine zu3 ?_|refine zu4 fun _ => ?_|refine zzj (fun _ => ?_) fun _ => ?_)); (repeat' (refine CW_seq ?_; (repeat' (first|refine zza ?_|refine zc9 ?_|refine zzb fun w hw => ?_|refine zzh fun _ => ?_|refine zzi fun _ _ => ?_|refine zu1 ?_|refine zu2 ?_|refine zu3 ?_|refine zu4 fun _ => ?_|refine zzj (fun _ => ?_) fun _ => ?_)))))
  rename_i b7
  exact ⟨((b7, b2), b3, bm), trivial, rfl, hw.ent (Ent.consK (k := Ent.cons zpk (Ent.cons zpk (Ent.cons zpk Ent.nil))) zpk)⟩
set_option maxHeartbeats 16000000 in
set_option maxRecDepth 100000 in
theorem pair_err (a b : ArrM) (G : Rd) (w : World) (hS : Rd.le G w.cell?) (ha : ArrG G a) (hb : ArrG G b) (h1 : a.arr.bad = 0) (h2 : b.arr.bad = 0) (h : pairE a.arr b.arr ≠ 0) :
    Calls Tryz.prog 158 #[arrV a, arrV b] w fun e w' => e = .returned (.tuple #[.nilFunc, .iface 28 (.int .i64 3)]) ∧ Below w.heap.size w w' := by
  refine enterR (args := [_, _]) (m := []) (F := []) hS.sub rfl Tryz.func158 rfl Tryz.ntmps158 (by simp) ?_
  clear hS
  have hC := fun W (h : Rd.le G W.cell?) => seek_check a b G W h ha hb
  rw [badTwo_ok h1 h2, errV_zero] at hC
  have h3 : a.shape.xs.length ≠ 1 ∨ b.shape.xs.length ≠ 1 := by
    unfold pairE at h
    split at h
    · rename_i h3
      exact h3
    · exact absurd rfl h
  clear h
  ((repeat' (first|refine zza ?_|refine zc9 ?_|refine zzb fun w hw => ?_|refine zzh fun _ => ?_|refine zzi fun _ _ => ?_|refine zu1 ?_|refine zu2 ?_|refine zu3 ?_|refine zu4 fun _ => ?_|refine zzj (fun _ => ?_) fun _ => ?_)); (repeat' (refine CW_seq ?_; (repeat' (first|refine zza ?_|refine zc9 ?_|refine zzb fun w hw => ?_|refine zzh fun _ => ?_|refine zzi fun _ _ => ?_|refine zu1 ?_|refine zu2 ?_|refine zu3 ?_|refine zu4 fun _ => ?_|refine zzj (fun _ => ?_) fun _ => ?_)))))
  refine WL_callV rfl rfl rfl (fun W hW => hC W (hW.le zpk)) ?_
  clear hC
  by_cases l1 : a.shape.xs.length = 1
  · have l2 : b.shape.xs.length ≠ 1 := by omega
    clear h3
    ((repeat' (first|refine zza ?_|refine zc9 ?_|refine zzb fun w hw => ?_|refine zzh fun _ => ?_|refine zzi fun _ _ => ?_|refine zu1 ?_|refine zu2 ?_|refine zu3 ?_|refine zu4 fun _ => ?_|refine zzj (fun _ => ?_) fun _ => ?_)); (repeat' (refine CW_seq ?_; (repeat' (first|refine zza ?_|refine zc9 ?_|refine zzb fun w hw => ?_|refine zzh fun _ => ?_|refine zzi fun _ _ => ?_|refine zu1 ?_|refine zu2 ?_|refine zu3 ?_|refine zu4 fun _ => ?_|refine zzj (fun _ => ?_) fun _ => ?_)))))
    exact ⟨rfl, hw.below⟩
  · clear h3
    ((repeat' (first|refine zza ?_|refine zc9 ?_|refine zzb fun w hw => ?_|refine zzh fun _ => ?_|refine zzi fun _ _ => ?_|refine zu1 ?_|refine zu2 ?_|refine zu3 ?_|refine zu4 fun _ => ?_|refine zzj (fun _ => ?_) fun _ => ?_)); (repeat' (refine CW_seq ?_; (repeat' (first|refine zza ?_|refine zc9 ?_|refine zzb fun w hw => ?_|refine zzh fun _ => ?_|refine zzi fun _ _ => ?_|refine zu1 ?_|refine zu2 ?_|refine zu3 ?_|refine zu4 fun _ => ?_|refine zzj (fun _ => ?_) fun _ => ?_)))))
    exact ⟨rfl, hw.below⟩
set_option maxHeartbeats 16000000 in
set_option maxRecDepth 100000 in
theorem without_not (a b : ArrM) (i c : Int) (bh b7 b2 b3 bm : Nat) (G : Rd) (W : World) (hS : Rd.le G W.cell?) (rh : boxV G bh (hasV b7 b2 b3)) (r7 : boxM G b7 bm) (r2 : boxA G b2 a) (r3 : boxA G b3 b) (hm : MapAt W bm (fsts b.data.xs)) :
    Calls Tryz.prog 160 #[.int .i64 i, .int .i64 c, ptrV bh] W fun e w' => e = .returned (.bool (!hasA b.arr a.char c)) ∧ Below W.heap.size W w' := by
  refine enterR (args := [_, _, _]) (m := []) (F := []) hS.sub rfl Tryz.func160 rfl Tryz.ntmps160 (by simp) ?_
  clear hS
  ((repeat' (first|refine zza ?_|refine zc9 ?_|refine zzb fun w hw => ?_|refine zzh fun _ => ?_|refine zzi fun _ _ => ?_|refine zu1 ?_|refine zu2 ?_|refine zu3 ?_|refine zu4 fun _ => ?_|refine zzj (fun _ => ?_) fun _ => ?_)); (repeat' (refine CW_seq ?_; (repeat' (first|refine zza ?_|refine zc9 ?_|refine zzb fun w hw => ?_|refine zzh fun _ => ?_|refine zzi fun _ _ => ?_|refine zu1 ?_|refine zu2 ?_|refine zu3 ?_|refine zu4 fun _ => ?_|refine zzj (fun _ => ?_) fun _ => ?_)))))
  refine WL_callY (f := 186) (cap := [ptrV b7, ptrV b2, ptrV b3]) rfl rfl rfl rfl (fun W' hW => pair_has a b i c b7 b2 b3 bm G W' (hW.le zpk) r7 r2 r3 (hm.keep hW.keep)) ?_
  ((repeat' (first|refine zza ?_|refine zc9 ?_|refine zzb fun w hw => ?_|refine zzh fun _ => ?_|refine zzi fun _ _ => ?_|refine zu1 ?_|refine zu2 ?_|refine zu3 ?_|refine zu4 fun _ => ?_|refine zzj (fun _ => ?_) fun _ => ?_)); (repeat' (refine CW_seq ?_; (repeat' (first|refine zza ?_|refine zc9 ?_|refine zzb fun w hw => ?_|refine zzh fun _ => ?_|refine zzi fun _ _ => ?_|refine zu1 ?_|refine zu2 ?_|refine zu3 ?_|refine zu4 fun _ => ?_|refine zzj (fun _ => ?_) fun _ => ?_)))))
  exact ⟨rfl, hw.below⟩
set_option maxHeartbeats 16000000 in
set_option maxRecDepth 100000 in
theorem seek_Without (a b : ArrM) (G : Rd) (w : World) (hS : Rd.le G w.cell?) (ha : ArrG G a) (hb : ArrG G b) (h1 : a.arr.bad = 0) (h2 : b.arr.bad = 0) :
    Calls Tryz.prog 113 #[arrV a, arrV b] w (ResT (withoutF a.arr b.arr) G w) := by
  refine enterR (args := [_, _]) (m := []) (F := []) hS.sub rfl Tryz.func113 rfl Tryz.ntmps113 (by simp) ?_
  clear hS
  have h7 : a.data.xs.length ≤ 4096 := (Arr.good h1).cells
  by_cases h : pairE a.arr b.arr = 0
  · have hF : withoutF a.arr b.arr = (0, chosenA (fun _ c => !hasA b.arr a.char c) a.arr) := if_neg (fun k => k h)
    rw [hF]
    clear hF
    ((repeat' (first|refine zza ?_|refine zc9 ?_|refine zzb fun w hw => ?_|refine zzh fun _ => ?_|refine zzi fun _ _ => ?_|refine zu1 ?_|refine zu2 ?_|refine zu3 ?_|refine zu4 fun _ => ?_|refine zzj (fun _ => ?_) fun _ => ?_)); (repeat' (refine CW_seq ?_; (repeat' (first|refine zza ?_|refine zc9 ?_|refine zzb fun w hw => ?_|refine zzh fun _ => ?_|refine zzi fun _ _ => ?_|refine zu1 ?_|refine zu2 ?_|refine zu3 ?_|refine zu4 fun _ => ?_|refine zzj (fun _ => ?_) fun _ => ?_)))))
    rename_i b2 b3 b4
    refine WL_callX rfl rfl rfl (fun W hW => pair_ok a b G W (hW.le zpk) ha hb h1 h2 h) ?_
    rintro ⟨⟨z7, z2⟩, z3, zm⟩ _
    dsimp only [List.cons_append, List.nil_append]
    ((repeat' (first|refine zza ?_|refine zc9 ?_|refine zzb fun w hw => ?_|refine zzh fun _ => ?_|refine zzi fun _ _ => ?_|refine zu1 ?_|refine zu2 ?_|refine zu3 ?_|refine zu4 fun _ => ?_|refine zzj (fun _ => ?_) fun _ => ?_)); (repeat' (refine CW_seq ?_; (repeat' (first|refine zza ?_|refine zc9 ?_|refine zzb fun w hw => ?_|refine zzh fun _ => ?_|refine zzi fun _ _ => ?_|refine zu1 ?_|refine zu2 ?_|refine zu3 ?_|refine zu4 fun _ => ?_|refine zzj (fun _ => ?_) fun _ => ?_)))))
    rename_i b6
    refine WL_ent (m' := [ro w [] G, blk b6 157 #[hasV z7 z2 z3], mapB z7 zm, boxB z2 a, boxB z3 b, mq zm (fsts b.data.xs), zB b4, boxB b2 a]) (Ent.cons (by repeat (first | exact .here | apply Pick.there)) (Ent.consK (k := zent) zpk)) ?_
    refine WL_rowB (enc := fun v : Value => [v]) (sz := 1) (b := b6) (u := hasV z7 z2 z3) (fun _ => rfl) (by decide) rfl zpk zpk (by kernel_rfl) fun G1 g1 r1 => ?_
    refine WL_rowB (enc := fun v : Value => [v]) (sz := 1) (b := z7) (u := .map (some zm)) (fun _ => rfl) (by decide) rfl zpk zpk (by kernel_rfl) fun G2 g2 r2 => ?_
    refine WL_rowB (enc := arrE) (sz := 3) (b := z2) (u := a) (fun _ => rfl) (by decide) rfl zpk zpk (by kernel_rfl) fun G3 g3 r3 => ?_
    refine WL_rowB (enc := arrE) (sz := 3) (b := z3) (u := b) (fun _ => rfl) (by decide) rfl zpk zpk (by kernel_rfl) fun G4 g4 r4 => ?_
    have l3 := g4.1
    have l2 := Rd.le_trans g3.1 l3
    have l1 := Rd.le_trans g2.1 l2
    have g14 := Rd.grow_tr g1 (Rd.grow_tr g2 (Rd.grow_tr g3 g4))
    ((repeat' (first|refine zza ?_|refine zc9 ?_|refine zzb fun w hw => ?_|refine zzh fun _ => ?_|refine zzi fun _ _ => ?_|refine zu1 ?_|refine zu2 ?_|refine zu3 ?_|refine zu4 fun _ => ?_|refine zzj (fun _ => ?_) fun _ => ?_)); (repeat' (refine CW_seq ?_; (repeat' (first|refine zza ?_|refine zc9 ?_|refine zzb fun w hw => ?_|refine zzh fun _ => ?_|refine zzi fun _ _ => ?_|refine zu1 ?_|refine zu2 ?_|refine zu3 ?_|refine zu4 fun _ => ?_|refine zzj (fun _ => ?_) fun _ => ?_)))))
    have hcall : ∀ W, Holds w [] [ro w [] G4, mq zm (fsts b.data.xs), zB b4, boxB b2 a] W → Calls Tryz.prog 159 #[arrV a, .func (.func 160) #[] #[ptrV b6]] W (OwnA (chosenA (fun _ c => !hasA b.arr a.char c) a.arr) W) := fun W hW => by
      have hmq := hW.mq zpk
      exact seek_chosen a 160 [ptrV b6] (fun _ c => !hasA b.arr a.char c) G4 W (hW.le zpk) (ha.mono g14.1) h7 fun i W' _ hk hl => without_not a b (i : Int) _ b6 z7 z2 z3 zm G4 W' hl (r1.mono l1) (r2.mono l2) (r3.mono l3) r4 (hmq.keep hk)
    refine WL_callX rfl rfl rfl hcall ?_
    rintro z _
    dsimp only [List.cons_append, List.nil_append]
    ((repeat' (first|refine zza ?_|refine zc9 ?_|refine zzb fun w hw => ?_|refine zzh fun _ => ?_|refine zzi fun _ _ => ?_|refine zu1 ?_|refine zu2 ?_|refine zu3 ?_|refine zu4 fun _ => ?_|refine zzj (fun _ => ?_) fun _ => ?_)); (repeat' (refine CW_seq ?_; (repeat' (first|refine zza ?_|refine zc9 ?_|refine zzb fun w hw => ?_|refine zzh fun _ => ?_|refine zzi fun _ _ => ?_|refine zu1 ?_|refine zu2 ?_|refine zu3 ?_|refine zu4 fun _ => ?_|refine zzj (fun _ => ?_) fun _ => ?_)))))
    refine EX_retK2 (b := b4) rfl rfl rfl rfl zpk rfl fun w' hw => ?_
    exact ResT.up g14 (ResT.ofO (x := chosenA (fun _ c => !hasA b.arr a.char c) a.arr) (z := z) (hw.ent (Ent.cons zpk (Ent.cons zpk (Ent.cons zpk Ent.nil)))) (chosenA_S h7) fun x hx => ha.dataI x (chosenL_mem _ _ _ (Nat.le_refl _) x hx))
  · have hF : withoutF a.arr b.arr = (3, zeroA) := by
      have e : pairE a.arr b.arr = 3 := by
        unfold pairE at h ⊢
        split
        · rfl
        · rename_i k
          rw [if_neg k] at h
          exact absurd rfl h
      unfold withoutF
      rw [if_pos h, e]
    rw [hF]
    clear hF
    ((repeat' (first|refine zza ?_|refine zc9 ?_|refine zzb fun w hw => ?_|refine zzh fun _ => ?_|refine zzi fun _ _ => ?_|refine zu1 ?_|refine zu2 ?_|refine zu3 ?_|refine zu4 fun _ => ?_|refine zzj (fun _ => ?_) fun _ => ?_)); (repeat' (refine CW_seq ?_; (repeat' (first|refine zza ?_|refine zc9 ?_|refine zzb fun w hw => ?_|refine zzh fun _ => ?_|refine zzi fun _ _ => ?_|refine zu1 ?_|refine zu2 ?_|refine zu3 ?_|refine zu4 fun _ => ?_|refine zzj (fun _ => ?_) fun _ => ?_)))))
    rename_i b2 b3 b4
    refine WL_callV rfl rfl rfl (fun W hW => pair_err a b G W (hW.le zpk) ha hb h1 h2 h) ?_
    ((repeat' (first|refine zza ?_|refine zc9 ?_|refine zzb fun w hw => ?_|refine zzh fun _ => ?_|refine zzi fun _ _ => ?_|refine zu1 ?_|refine zu2 ?_|refine zu3 ?_|refine zu4 fun _ => ?_|refine zzj (fun _ => ?_) fun _ => ?_)); (repeat' (refine CW_seq ?_; (repeat' (first|refine zza ?_|refine zc9 ?_|refine zzb fun w hw => ?_|refine zzh fun _ => ?_|refine zzi fun _ _ => ?_|refine zu1 ?_|refine zu2 ?_|refine zu3 ?_|refine zu4 fun _ => ?_|refine zzj (fun _ => ?_) fun _ => ?_)))))
    refine EX_retK2 (b := b4) rfl rfl rfl rfl zpk rfl fun w' hw => ?_
    exact ResT.err (by decide) (hw.ent (Ent.cons zpk Ent.nil))
end Go.Proofs.YtadlpfbjnpbnoaaGreatDoor
