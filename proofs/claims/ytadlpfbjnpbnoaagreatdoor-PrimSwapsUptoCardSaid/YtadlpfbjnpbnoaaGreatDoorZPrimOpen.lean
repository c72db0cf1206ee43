/-
  The law PrimSwaps.
  Arguments of the laws of prim: an array, a number.
-/
import Derived.Test.YtadlpfbjnpbnoaaGreatDoorZGo
import Derived.Test.YtadlpfbjnpbnoaaGreatDoorZLaidH
import Derived.Test.YtadlpfbjnpbnoaaGreatDoorZSubL
import Derived.Test.YtadlpfbjnpbnoaaGreatDoorZPrimOneS
import Derived.Test.YtadlpfbjnpbnoaaGreatDoorZOpenArr
namespace Go.Proofs.YtadlpfbjnpbnoaaGreatDoor
open Go.RowKit
theorem swap_fact {a b : Arr} (ha : a = ⟨false, [1], [1]⟩) (hb : b = ⟨false, [1], [5]⟩) : plainF 2 b a = (0, ⟨false, [1], [4]⟩) := by
  subst ha hb
  rfl
theorem one_lit {k : Int} (h : I64 k) : ∀ n ∈ [k], I64 n := fun n hn => by rw [List.mem_singleton.1 hn]; exact h
theorem same_Arr (x y : ArrM) (G : Rd) (w : World) (h : y.arr = x.arr) (hl : Rd.le G w.cell?) (hx : ArrG G x) (hy : ArrG G y) : Calls Tryz.prog 15 #[arrV x, arrV y] w fun e w' => e = .returned (.bool true) ∧ Below w.heap.size w w' := by
  obtain ⟨xc, xs, xd⟩ := x
  obtain ⟨yc, ys, yd⟩ := y
  obtain rfl : yc = xc := congrArg Arr.char h
  exact same_Array yc xs xd ys yd w (hx.shape.mono hl) (hx.data.mono hl) (hy.shape.mono hl) (hy.data.mono hl) (congrArg Arr.shape h) (congrArg Arr.data h)
theorem told_same (e : Int) (w : World) (hg : Handle w) : Calls Tryz.prog 14 #[errV 28 e, errV 28 e] w fun r w' => r = .returned (.bool true) ∧ Below w.heap.size w w' := by
  have := same_Told e e w hg
  rwa [decide_eq_true rfl] at this
set_option maxHeartbeats 16000000 in
set_option maxRecDepth 100000 in
theorem law_PrimSwaps (f : Int) (a b : ArrM) (w : World) (ha : ArrG w.cell? a) (hb : ArrG w.cell? b) (hH : Handle w) :
    Calls Tryz.prog 5 #[.int .i64 f, arrV a, arrV b] w fun e w' => e = .returned (.bool true) ∧ Below w.heap.size w w' := by
  refine enterR (G := w.cell?) (args := [_, _, _]) (m := []) (F := []) (Rd.sub_cell w) rfl Tryz.func5 rfl Tryz.ntmps5 (by simp) ?_
  ((repeat' (first|refine zza ?_|refine zc9 ?_|refine zzb fun w hw => ?_|refine zzh fun _ => ?_|refine zzi fun _ _ => ?_|refine zu1 ?_|refine zu2 ?_|refine zu3 ?_|refine zu4 fun _ => ?_|refine zzj (fun _ => ?_) fun _ => ?_)); (repeat' (refine CW_seq ?_; (repeat' (first|refine zza ?_|refine zc9 ?_|refine zzb fun w hw => ?_|refine zzh fun _ => ?_|refine zzi fun _ _ => ?_|refine zu1 ?_|refine zu2 ?_|refine zu3 ?_|refine zu4 fun _ => ?_|refine zzj (fun _ => ?_) fun _ => ?_)))))
  rename_i b4 b5 b24
  refine WL_rowB (enc := encI) (sz := 1) (b := b24) (T := 3) (u := (1 : Int)) (cs := #[.int .i64 1]) (fun _ => rfl) (by decide) rfl zpk zpk rfl fun G1 g1 r1 => ?_
  refine WL_callT (r := [boxB b5 b, boxB b4 a]) zent rfl rfl rfl (fun W hW => vec_T (some ⟨b24, 0, none⟩) 1 [1] G1 W hW (ints_at r1 (one_lit ⟨by decide, by decide⟩) (fun x u e => (hW x u e).1)) (one_lit ⟨by decide, by decide⟩) (by decide)) ?_
  rintro A1 G2 ⟨eA, hA⟩ g2
  ((repeat' (first|refine zza ?_|refine zc9 ?_|refine zzb fun w hw => ?_|refine zzh fun _ => ?_|refine zzi fun _ _ => ?_|refine zu1 ?_|refine zu2 ?_|refine zu3 ?_|refine zu4 fun _ => ?_|refine zzj (fun _ => ?_) fun _ => ?_)); (repeat' (refine CW_seq ?_; (repeat' (first|refine zza ?_|refine zc9 ?_|refine zzb fun w hw => ?_|refine zzh fun _ => ?_|refine zzi fun _ _ => ?_|refine zu1 ?_|refine zu2 ?_|refine zu3 ?_|refine zu4 fun _ => ?_|refine zzj (fun _ => ?_) fun _ => ?_)))))
  rename_i b26
  refine WL_rowB (enc := encI) (sz := 1) (b := b26) (T := 3) (u := (5 : Int)) (cs := #[.int .i64 5]) (fun _ => rfl) (by decide) rfl zpk zpk rfl fun G3 g3 r3 => ?_
  refine WL_callT (r := [boxB b5 b, boxB b4 a]) zent rfl rfl rfl (fun W hW => vec_T (some ⟨b26, 0, none⟩) 1 [5] G3 W hW (ints_at r3 (one_lit ⟨by decide, by decide⟩) (fun x u e => (hW x u e).1)) (one_lit ⟨by decide, by decide⟩) (by decide)) ?_
  rintro A5 G4 ⟨eB, hB⟩ g4
  have kA : A1.arr.bad = 0 := by rw [eA]; rfl
  have kB : A5.arr.bad = 0 := by rw [eB]; rfl
  have hA4 : ArrG G4 A1 := hA.mono (Rd.grow_tr g3 g4).1
  have hT := fun W (h : Rd.le G4 W.cell?) => two_swap 2 0 A1 A5 G4 W h hA4 hB kA kB
  rw [swap_fact eA eB] at hT
  have g04 := Rd.grow_tr (Rd.grow_tr g1 g2) (Rd.grow_tr g3 g4)
  have ha4 := ha.mono g04.1
  have hb4 := hb.mono g04.1
  clear ha hb g1 g2 g3 g4 r1 r3 hA hB hA4 eA eB kA kB g04
  ((repeat' (first|refine zza ?_|refine zc9 ?_|refine zzb fun w hw => ?_|refine zzh fun _ => ?_|refine zzi fun _ _ => ?_|refine zu1 ?_|refine zu2 ?_|refine zu3 ?_|refine zu4 fun _ => ?_|refine zzj (fun _ => ?_) fun _ => ?_)); (repeat' (refine CW_seq ?_; (repeat' (first|refine zza ?_|refine zc9 ?_|refine zzb fun w hw => ?_|refine zzh fun _ => ?_|refine zzi fun _ _ => ?_|refine zu1 ?_|refine zu2 ?_|refine zu3 ?_|refine zu4 fun _ => ?_|refine zzj (fun _ => ?_) fun _ => ?_)))))
  refine WL_callT (r := [boxB b5 b, boxB b4 a]) zent rfl rfl rfl (fun W hW => hT W (fun x u e => (hW x u e).1)) ?_
  rintro z G5 hz g5
  rw [show resV ((0 : Int), (⟨false, [1], [4]⟩ : Arr)).1 z = .tuple #[arrV z, .nilIface] by unfold resV; rw [errV_zero]]
  obtain ⟨zc, ⟨sp, sc, sx⟩, ⟨dp, dc, dx⟩⟩ := z
  obtain rfl : dx = [4] := congrArg Arr.data hz.eq
  have hz2 := hz.good.data
  clear hT hz
  have ha5 := ha4.mono g5.1
  have hb5 := hb4.mono g5.1
  clear ha4 hb4 g5
  ((repeat' (first|refine zza ?_|refine zc9 ?_|refine zzb fun w hw => ?_|refine zzh fun _ => ?_|refine zzi fun _ _ => ?_|refine zu1 ?_|refine zu2 ?_|refine zu3 ?_|refine zu4 fun _ => ?_|refine zzj (fun _ => ?_) fun _ => ?_)); (repeat' (refine CW_seq ?_; (repeat' (first|refine zza ?_|refine zc9 ?_|refine zzb fun w hw => ?_|refine zzh fun _ => ?_|refine zzi fun _ _ => ?_|refine zu1 ?_|refine zu2 ?_|refine zu3 ?_|refine zu4 fun _ => ?_|refine zzj (fun _ => ?_) fun _ => ?_)))))
  rename_i b7 b33
  refine WL_rowB (enc := encI) (sz := 1) (b := b33) (T := 3) (u := (4 : Int)) (cs := #[.int .i64 4]) (fun _ => rfl) (by decide) rfl zpk zpk rfl fun G6 g6 r6 => ?_
  refine WL_callV rfl rfl rfl (fun W hW => same_Ints dp (some ⟨b33, 0, none⟩) dc 1 1 [4] rfl W ((hz2.mono g6.1).mono (hW.le zpk)) (r6.mono (hW.le zpk))) ?_
  have ha6 := ha5.mono g6.1
  have hb6 := hb5.mono g6.1
  clear ha5 hb5 g6 hz2 r6
  ((repeat' (first|refine zza ?_|refine zc9 ?_|refine zzb fun w hw => ?_|refine zzh fun _ => ?_|refine zzi fun _ _ => ?_|refine zu1 ?_|refine zu2 ?_|refine zu3 ?_|refine zu4 fun _ => ?_|refine zzj (fun _ => ?_) fun _ => ?_)); (repeat' (refine CW_seq ?_; (repeat' (first|refine zza ?_|refine zc9 ?_|refine zzb fun w hw => ?_|refine zzh fun _ => ?_|refine zzi fun _ _ => ?_|refine zu1 ?_|refine zu2 ?_|refine zu3 ?_|refine zu4 fun _ => ?_|refine zzj (fun _ => ?_) fun _ => ?_)))))
  refine WL_ent (m' := [boxB b5 b, boxB b4 a, ro w [] G6]) zent ?_
  have hcA := fun W (h : Rd.le G6 W.cell?) => chk a G6 W ha6 h
  have hcB := fun W (h : Rd.le G6 W.cell?) => chk b G6 W hb6 h
  by_cases h1 : a.arr.bad = 0
  · rw [h1, errV_zero] at hcA
    refine WL_callV rfl rfl rfl (fun W hW => hcA W (hW.le zpk)) ?_
    clear hcA
    by_cases h2 : b.arr.bad = 0
    · rw [h2, errV_zero] at hcB
      ((repeat' (first|refine zza ?_|refine zc9 ?_|refine zzb fun w hw => ?_|refine zzh fun _ => ?_|refine zzi fun _ _ => ?_|refine zu1 ?_|refine zu2 ?_|refine zu3 ?_|refine zu4 fun _ => ?_|refine zzj (fun _ => ?_) fun _ => ?_)); (repeat' (refine CW_seq ?_; (repeat' (first|refine zza ?_|refine zc9 ?_|refine zzb fun w hw => ?_|refine zzh fun _ => ?_|refine zzi fun _ _ => ?_|refine zu1 ?_|refine zu2 ?_|refine zu3 ?_|refine zu4 fun _ => ?_|refine zzj (fun _ => ?_) fun _ => ?_)))))
      refine WL_callV rfl rfl rfl (fun W hW => hcB W (hW.le zpk)) ?_
      clear hcB
      ((repeat' (first|refine zza ?_|refine zc9 ?_|refine zzb fun w hw => ?_|refine zzh fun _ => ?_|refine zzi fun _ _ => ?_|refine zu1 ?_|refine zu2 ?_|refine zu3 ?_|refine zu4 fun _ => ?_|refine zzj (fun _ => ?_) fun _ => ?_)); (repeat' (refine CW_seq ?_; (repeat' (first|refine zza ?_|refine zc9 ?_|refine zzb fun w hw => ?_|refine zzh fun _ => ?_|refine zzi fun _ _ => ?_|refine zu1 ?_|refine zu2 ?_|refine zu3 ?_|refine zu4 fun _ => ?_|refine zzj (fun _ => ?_) fun _ => ?_)))))
      have t1 := fun W (h : Rd.le G6 W.cell?) => two_swap f 0 a b G6 W h ha6 hb6 h1 h2
      generalize hL : plainF f b.arr a.arr = L at t1
      refine WL_callT (r := [boxB b5 b, boxB b4 a]) zent rfl rfl rfl (fun W hW => t1 W (fun x u e => (hW x u e).1)) ?_
      clear t1
      rintro z1 G7 y1 g7
      have ha7 := ha6.mono g7.1
      have hb7 := hb6.mono g7.1
      clear ha6 hb6
      ((repeat' (first|refine zza ?_|refine zc9 ?_|refine zzb fun w hw => ?_|refine zzh fun _ => ?_|refine zzi fun _ _ => ?_|refine zu1 ?_|refine zu2 ?_|refine zu3 ?_|refine zu4 fun _ => ?_|refine zzj (fun _ => ?_) fun _ => ?_)); (repeat' (refine CW_seq ?_; (repeat' (first|refine zza ?_|refine zc9 ?_|refine zzb fun w hw => ?_|refine zzh fun _ => ?_|refine zzi fun _ _ => ?_|refine zu1 ?_|refine zu2 ?_|refine zu3 ?_|refine zu4 fun _ => ?_|refine zzj (fun _ => ?_) fun _ => ?_)))))
      rename_i b10
      have t2 := fun W (h : Rd.le G7 W.cell?) => two_plain f 0 b a G7 W h hb7 ha7 h2 h1
      rw [hL] at t2
      clear hL
      refine WL_callT (r := [boxB b10 z1, boxB b5 b, boxB b4 a]) zent rfl rfl rfl (fun W hW => t2 W (fun x u e => (hW x u e).1)) ?_
      clear t2
      rintro z2 G8 y2 g8
      have ha8 := ha7.mono g8.1
      clear ha7 hb7
      ((repeat' (first|refine zza ?_|refine zc9 ?_|refine zzb fun w hw => ?_|refine zzh fun _ => ?_|refine zzi fun _ _ => ?_|refine zu1 ?_|refine zu2 ?_|refine zu3 ?_|refine zu4 fun _ => ?_|refine zzj (fun _ => ?_) fun _ => ?_)); (repeat' (refine CW_seq ?_; (repeat' (first|refine zza ?_|refine zc9 ?_|refine zzb fun w hw => ?_|refine zzh fun _ => ?_|refine zzi fun _ _ => ?_|refine zu1 ?_|refine zu2 ?_|refine zu3 ?_|refine zu4 fun _ => ?_|refine zzj (fun _ => ?_) fun _ => ?_)))))
      rename_i b12
      have t3 := fun W (h : Rd.le G8 W.cell?) => one_swap f 0 a G8 W h ha8 h1
      generalize hM : plainF f a.arr a.arr = M at t3
      refine WL_callT (r := [boxB b12 z2, boxB b10 z1, boxB b5 b, boxB b4 a]) zent rfl rfl rfl (fun W hW => t3 W (fun x u e => (hW x u e).1)) ?_
      clear t3
      rintro z3 G9 y3 g9
      have ha9 := ha8.mono g9.1
      clear ha8
      ((repeat' (first|refine zza ?_|refine zc9 ?_|refine zzb fun w hw => ?_|refine zzh fun _ => ?_|refine zzi fun _ _ => ?_|refine zu1 ?_|refine zu2 ?_|refine zu3 ?_|refine zu4 fun _ => ?_|refine zzj (fun _ => ?_) fun _ => ?_)); (repeat' (refine CW_seq ?_; (repeat' (first|refine zza ?_|refine zc9 ?_|refine zzb fun w hw => ?_|refine zzh fun _ => ?_|refine zzi fun _ _ => ?_|refine zu1 ?_|refine zu2 ?_|refine zu3 ?_|refine zu4 fun _ => ?_|refine zzj (fun _ => ?_) fun _ => ?_)))))
      rename_i b14
      have t4 := fun W (h : Rd.le G9 W.cell?) => two_plain f 0 a a G9 W h ha9 ha9 h1 h1
      rw [hM] at t4
      clear hM
      refine WL_callT (r := [boxB b14 z3, boxB b12 z2, boxB b10 z1, boxB b5 b, boxB b4 a]) zent rfl rfl rfl (fun W hW => t4 W (fun x u e => (hW x u e).1)) ?_
      clear t4
      rintro z4 G10 y4 g10
      ((repeat' (first|refine zza ?_|refine zc9 ?_|refine zzb fun w hw => ?_|refine zzh fun _ => ?_|refine zzi fun _ _ => ?_|refine zu1 ?_|refine zu2 ?_|refine zu3 ?_|refine zu4 fun _ => ?_|refine zzj (fun _ => ?_) fun _ => ?_)); (repeat' (refine CW_seq ?_; (repeat' (first|refine zza ?_|refine zc9 ?_|refine zzb fun w hw => ?_|refine zzh fun _ => ?_|refine zzi fun _ _ => ?_|refine zu1 ?_|refine zu2 ?_|refine zu3 ?_|refine zu4 fun _ => ?_|refine zzj (fun _ => ?_) fun _ => ?_)))))
      rename_i b16
      have c1 := y1.good.mono (Rd.grow_tr g8 (Rd.grow_tr g9 g10)).1
      have c2 := y2.good.mono (Rd.grow_tr g9 g10).1
      have c3 := y3.good.mono g10.1
      have c4 := y4.good
      have q1 : z2.arr = z1.arr := y2.eq.trans y1.eq.symm
      have q2 : z4.arr = z3.arr := y4.eq.trans y3.eq.symm
      clear y1 y2 y3 y4 g7 g8 g9 g10 ha9 h1 h2
      refine WL_callV rfl rfl rfl (fun W hW => told_same L.1 W (hH.below hW.below)) ?_
      ((repeat' (first|refine zza ?_|refine zc9 ?_|refine zzb fun w hw => ?_|refine zzh fun _ => ?_|refine zzi fun _ _ => ?_|refine zu1 ?_|refine zu2 ?_|refine zu3 ?_|refine zu4 fun _ => ?_|refine zzj (fun _ => ?_) fun _ => ?_)); (repeat' (refine CW_seq ?_; (repeat' (first|refine zza ?_|refine zc9 ?_|refine zzb fun w hw => ?_|refine zzh fun _ => ?_|refine zzi fun _ _ => ?_|refine zu1 ?_|refine zu2 ?_|refine zu3 ?_|refine zu4 fun _ => ?_|refine zzj (fun _ => ?_) fun _ => ?_)))))
      refine WL_callV rfl rfl rfl (fun W hW => told_same M.1 W (hH.below hW.below)) ?_
      ((repeat' (first|refine zza ?_|refine zc9 ?_|refine zzb fun w hw => ?_|refine zzh fun _ => ?_|refine zzi fun _ _ => ?_|refine zu1 ?_|refine zu2 ?_|refine zu3 ?_|refine zu4 fun _ => ?_|refine zzj (fun _ => ?_) fun _ => ?_)); (repeat' (refine CW_seq ?_; (repeat' (first|refine zza ?_|refine zc9 ?_|refine zzb fun w hw => ?_|refine zzh fun _ => ?_|refine zzi fun _ _ => ?_|refine zu1 ?_|refine zu2 ?_|refine zu3 ?_|refine zu4 fun _ => ?_|refine zzj (fun _ => ?_) fun _ => ?_)))))
      refine WL_callV rfl rfl rfl (fun W hW => same_Arr z1 z2 G10 W q1 (hW.le zpk) c1 c2) ?_
      ((repeat' (first|refine zza ?_|refine zc9 ?_|refine zzb fun w hw => ?_|refine zzh fun _ => ?_|refine zzi fun _ _ => ?_|refine zu1 ?_|refine zu2 ?_|refine zu3 ?_|refine zu4 fun _ => ?_|refine zzj (fun _ => ?_) fun _ => ?_)); (repeat' (refine CW_seq ?_; (repeat' (first|refine zza ?_|refine zc9 ?_|refine zzb fun w hw => ?_|refine zzh fun _ => ?_|refine zzi fun _ _ => ?_|refine zu1 ?_|refine zu2 ?_|refine zu3 ?_|refine zu4 fun _ => ?_|refine zzj (fun _ => ?_) fun _ => ?_)))))
      refine WL_callV rfl rfl rfl (fun W hW => same_Arr z3 z4 G10 W q2 (hW.le zpk) c3 c4) ?_
      ((repeat' (first|refine zza ?_|refine zc9 ?_|refine zzb fun w hw => ?_|refine zzh fun _ => ?_|refine zzi fun _ _ => ?_|refine zu1 ?_|refine zu2 ?_|refine zu3 ?_|refine zu4 fun _ => ?_|refine zzj (fun _ => ?_) fun _ => ?_)); (repeat' (refine CW_seq ?_; (repeat' (first|refine zza ?_|refine zc9 ?_|refine zzb fun w hw => ?_|refine zzh fun _ => ?_|refine zzi fun _ _ => ?_|refine zu1 ?_|refine zu2 ?_|refine zu3 ?_|refine zu4 fun _ => ?_|refine zzj (fun _ => ?_) fun _ => ?_)))))
      exact ⟨rfl, hw.below⟩
    · rw [errV_ne h2] at hcB
      ((repeat' (first|refine zza ?_|refine zc9 ?_|refine zzb fun w hw => ?_|refine zzh fun _ => ?_|refine zzi fun _ _ => ?_|refine zu1 ?_|refine zu2 ?_|refine zu3 ?_|refine zu4 fun _ => ?_|refine zzj (fun _ => ?_) fun _ => ?_)); (repeat' (refine CW_seq ?_; (repeat' (first|refine zza ?_|refine zc9 ?_|refine zzb fun w hw => ?_|refine zzh fun _ => ?_|refine zzi fun _ _ => ?_|refine zu1 ?_|refine zu2 ?_|refine zu3 ?_|refine zu4 fun _ => ?_|refine zzj (fun _ => ?_) fun _ => ?_)))))
      refine WL_callV rfl rfl rfl (fun W hW => hcB W (hW.le zpk)) ?_
      ((repeat' (first|refine zza ?_|refine zc9 ?_|refine zzb fun w hw => ?_|refine zzh fun _ => ?_|refine zzi fun _ _ => ?_|refine zu1 ?_|refine zu2 ?_|refine zu3 ?_|refine zu4 fun _ => ?_|refine zzj (fun _ => ?_) fun _ => ?_)); (repeat' (refine CW_seq ?_; (repeat' (first|refine zza ?_|refine zc9 ?_|refine zzb fun w hw => ?_|refine zzh fun _ => ?_|refine zzi fun _ _ => ?_|refine zu1 ?_|refine zu2 ?_|refine zu3 ?_|refine zu4 fun _ => ?_|refine zzj (fun _ => ?_) fun _ => ?_)))))
      exact ⟨rfl, hw.below⟩
  · rw [errV_ne h1] at hcA
    refine WL_callV rfl rfl rfl (fun W hW => hcA W (hW.le zpk)) ?_
    ((repeat' (first|refine zza ?_|refine zc9 ?_|refine zzb fun w hw => ?_|refine zzh fun _ => ?_|refine zzi fun _ _ => ?_|refine zu1 ?_|refine zu2 ?_|refine zu3 ?_|refine zu4 fun _ => ?_|refine zzj (fun _ => ?_) fun _ => ?_)); (repeat' (refine CW_seq ?_; (repeat' (first|refine zza ?_|refine zc9 ?_|refine zzb fun w hw => ?_|refine zzh fun _ => ?_|refine zzi fun _ _ => ?_|refine zu1 ?_|refine zu2 ?_|refine zu3 ?_|refine zu4 fun _ => ?_|refine zzj (fun _ => ?_) fun _ => ?_)))))
    exact ⟨rfl, hw.below⟩
end Go.Proofs.YtadlpfbjnpbnoaaGreatDoor
namespace Go.Proofs.YtadlpfbjnpbnoaaGreatDoor
open Go.RowKit Go.WideShapes
set_option maxRecDepth 100000 in
theorem arg_arr {H : Type} {en : TypeId × Value → H} {w : World} {base b0 B : Nat} {spare : Nat → Bool} {held : Bool} {r : Reach} {v : Value} {d : DataW H} {p : List MemPlace}
    (hv : Value.okWide Tryz.prog w r b0 27 v) (hd : DataW.Trod en Tryz.prog w base spare held 27 v d p) (hB : Rows.uptoBulk d ≤ B) : ∃ a : ArrM, v = arrV a ∧ ArrS w B a := by
  obtain ⟨cs, rfl, _⟩ := okWide_struct Tryz.underlying27 hv
  obtain ⟨n, hn⟩ := hd
  obtain ⟨a, e1, e2⟩ := oArr.op (x := (d, p)) hn hB
  refine ⟨a, ?_, e2⟩
  have e3 : cs.toList = arrE a := by simpa [Value.cells] using e1
  show Value.agg cs = Value.agg (arrE a).toArray
  rw [← e3]
theorem arrG_of {w : World} {B : Nat} {a : ArrM} (h : ArrS w B a) : ArrG w.cell? a := ⟨h.1.row, h.2.row, h.1.each, h.2.each⟩
theorem open_PrimSwaps (f : Int) (a b : ArrM) (w : World) (_ : I64 f) (ha : ArrS w 1048576 a) (hb : ArrS w 1048576 b) (L : LaidHd w) :
    Calls Tryz.prog 5 #[.int .i64 f, arrV a, arrV b] w fun e w' => e = .returned (.bool true) ∧ Below w.heap.size w w' :=
  law_PrimSwaps f a b w (arrG_of ha) (arrG_of hb) L.hand
end Go.Proofs.YtadlpfbjnpbnoaaGreatDoor
