/-
  The package prim: the functions of any two arrays, but for the comma.
-/
import Derived.Test.YtadlpfbjnpbnoaaGreatDoorZGo
import Derived.Test.YtadlpfbjnpbnoaaGreatDoorZSeekV
import Derived.Test.YtadlpfbjnpbnoaaGreatDoorZRadix
import Derived.Test.YtadlpfbjnpbnoaaGreatDoorZReshape
import Derived.Test.YtadlpfbjnpbnoaaGreatDoorZDigW
namespace Go.Proofs.YtadlpfbjnpbnoaaGreatDoor
open Go.RowKit
def byBothF (f : Int) (a b : Arr) : Int × Arr :=
  if f = 19 then joinF ((vecA a).shape.length - 1) (vecA a) (vecA b) else if f = 24 then indexF a b else if f = 25 then (0, inF a b) else if f = 17 then withoutF a b else if f = 28 then unionF a b
  else if f = 29 then meetF a b else if f = 32 then (0, ⟨false, [], [if (matchF a b).1 = true then 1 else 0]⟩) else eachTwo f a b
set_option maxHeartbeats 16000000 in
set_option maxRecDepth 100000 in
theorem byBoth_index (a b : ArrM) (G : Rd) (w : World) (hS : Rd.le G w.cell?) (ha : ArrG G a) (hb : ArrG G b) (h1 : a.arr.bad = 0) (h2 : b.arr.bad = 0) :
    Calls Tryz.prog 41 #[.int .i64 24, arrV a, arrV b] w (ResT (byBothF 24 a.arr b.arr) G w) := by
  refine enterR (args := [_, _, _]) (m := []) (F := []) hS.sub rfl Tryz.func41 rfl Tryz.ntmps41 (by simp) ?_
  clear hS
  have hF : byBothF 24 a.arr b.arr = indexF a.arr b.arr := rfl
  rw [hF]
  clear hF
  ((repeat' (first|refine zza ?_|refine zc9 ?_|refine zzb fun w hw => ?_|refine zzh fun _ => ?_|refine zzi fun _ _ => ?_|refine zu1 ?_|refine zu2 ?_|refine zu3 ?_|refine zu4 fun _ => ?_|refine zzj (fun _ => ?_) fun _ => ?_)); (repeat' (refine CW_seq ?_; (repeat' (first|refine zza ?_|refine zc9 ?_|refine zzb fun w hw => ?_|refine zzh fun _ => ?_|refine zzi fun _ _ => ?_|refine zu1 ?_|refine zu2 ?_|refine zu3 ?_|refine zu4 fun _ => ?_|refine zzj (fun _ => ?_) fun _ => ?_)))))
  rename_i b4 b5 b6
  refine WL_callT (r := [zB b6, boxB b4 a, boxB b5 b]) zent rfl rfl rfl (fun W hW => seek_Index a b G W (fun x u e => (hW x u e).1) ha hb h1 h2) ?_
  rintro z G2 hz g2
  ((repeat' (first|refine zza ?_|refine zc9 ?_|refine zzb fun w hw => ?_|refine zzh fun _ => ?_|refine zzi fun _ _ => ?_|refine zu1 ?_|refine zu2 ?_|refine zu3 ?_|refine zu4 fun _ => ?_|refine zzj (fun _ => ?_) fun _ => ?_)); (repeat' (refine CW_seq ?_; (repeat' (first|refine zza ?_|refine zc9 ?_|refine zzb fun w hw => ?_|refine zzh fun _ => ?_|refine zzi fun _ _ => ?_|refine zu1 ?_|refine zu2 ?_|refine zu3 ?_|refine zu4 fun _ => ?_|refine zzj (fun _ => ?_) fun _ => ?_)))))
  refine EX_retK2 (b := b6) rfl rfl rfl rfl zpk rfl fun w' hw => ?_
  exact ⟨z, G2, hz, rfl, g2, hw.ent (Ent.cons zpk Ent.nil)⟩
set_option maxHeartbeats 16000000 in
set_option maxRecDepth 100000 in
theorem byBoth_in (a b : ArrM) (G : Rd) (w : World) (hS : Rd.le G w.cell?) (ha : ArrG G a) (hb : ArrG G b) (h1 : a.arr.bad = 0) (h2 : b.arr.bad = 0) :
    Calls Tryz.prog 41 #[.int .i64 25, arrV a, arrV b] w (ResT (byBothF 25 a.arr b.arr) G w) := by
  refine enterR (args := [_, _, _]) (m := []) (F := []) hS.sub rfl Tryz.func41 rfl Tryz.ntmps41 (by simp) ?_
  clear hS
  have hF : byBothF 25 a.arr b.arr = (0, inF a.arr b.arr) := rfl
  rw [hF]
  clear hF
  ((repeat' (first|refine zza ?_|refine zc9 ?_|refine zzb fun w hw => ?_|refine zzh fun _ => ?_|refine zzi fun _ _ => ?_|refine zu1 ?_|refine zu2 ?_|refine zu3 ?_|refine zu4 fun _ => ?_|refine zzj (fun _ => ?_) fun _ => ?_)); (repeat' (refine CW_seq ?_; (repeat' (first|refine zza ?_|refine zc9 ?_|refine zzb fun w hw => ?_|refine zzh fun _ => ?_|refine zzi fun _ _ => ?_|refine zu1 ?_|refine zu2 ?_|refine zu3 ?_|refine zu4 fun _ => ?_|refine zzj (fun _ => ?_) fun _ => ?_)))))
  rename_i b4 b5 b6
  refine WL_callT (r := [zB b6, boxB b4 a, boxB b5 b]) zent rfl rfl rfl (fun W hW => seek_In a b G W (fun x u e => (hW x u e).1) ha hb h1 h2) ?_
  rintro z G2 hz g2
  ((repeat' (first|refine zza ?_|refine zc9 ?_|refine zzb fun w hw => ?_|refine zzh fun _ => ?_|refine zzi fun _ _ => ?_|refine zu1 ?_|refine zu2 ?_|refine zu3 ?_|refine zu4 fun _ => ?_|refine zzj (fun _ => ?_) fun _ => ?_)); (repeat' (refine CW_seq ?_; (repeat' (first|refine zza ?_|refine zc9 ?_|refine zzb fun w hw => ?_|refine zzh fun _ => ?_|refine zzi fun _ _ => ?_|refine zu1 ?_|refine zu2 ?_|refine zu3 ?_|refine zu4 fun _ => ?_|refine zzj (fun _ => ?_) fun _ => ?_)))))
  refine EX_retK2 (b := b6) rfl rfl rfl rfl zpk rfl fun w' hw => ?_
  exact ⟨z, G2, hz, rfl, g2, hw.ent (Ent.cons zpk Ent.nil)⟩
set_option maxHeartbeats 16000000 in
set_option maxRecDepth 100000 in
theorem byBoth_without (a b : ArrM) (G : Rd) (w : World) (hS : Rd.le G w.cell?) (ha : ArrG G a) (hb : ArrG G b) (h1 : a.arr.bad = 0) (h2 : b.arr.bad = 0) :
    Calls Tryz.prog 41 #[.int .i64 17, arrV a, arrV b] w (ResT (byBothF 17 a.arr b.arr) G w) := by
  refine enterR (args := [_, _, _]) (m := []) (F := []) hS.sub rfl Tryz.func41 rfl Tryz.ntmps41 (by simp) ?_
  clear hS
  have hF : byBothF 17 a.arr b.arr = withoutF a.arr b.arr := rfl
  rw [hF]
  clear hF
  ((repeat' (first|refine zza ?_|refine zc9 ?_|refine zzb fun w hw => ?_|refine zzh fun _ => ?_|refine zzi fun _ _ => ?_|refine zu1 ?_|refine zu2 ?_|refine zu3 ?_|refine zu4 fun _ => ?_|refine zzj (fun _ => ?_) fun _ => ?_)); (repeat' (refine CW_seq ?_; (repeat' (first|refine zza ?_|refine zc9 ?_|refine zzb fun w hw => ?_|refine zzh fun _ => ?_|refine zzi fun _ _ => ?_|refine zu1 ?_|refine zu2 ?_|refine zu3 ?_|refine zu4 fun _ => ?_|refine zzj (fun _ => ?_) fun _ => ?_)))))
  rename_i b4 b5 b6
  refine WL_callT (r := [zB b6, boxB b4 a, boxB b5 b]) zent rfl rfl rfl (fun W hW => seek_Without a b G W (fun x u e => (hW x u e).1) ha hb h1 h2) ?_
  rintro z G2 hz g2
  ((repeat' (first|refine zza ?_|refine zc9 ?_|refine zzb fun w hw => ?_|refine zzh fun _ => ?_|refine zzi fun _ _ => ?_|refine zu1 ?_|refine zu2 ?_|refine zu3 ?_|refine zu4 fun _ => ?_|refine zzj (fun _ => ?_) fun _ => ?_)); (repeat' (refine CW_seq ?_; (repeat' (first|refine zza ?_|refine zc9 ?_|refine zzb fun w hw => ?_|refine zzh fun _ => ?_|refine zzi fun _ _ => ?_|refine zu1 ?_|refine zu2 ?_|refine zu3 ?_|refine zu4 fun _ => ?_|refine zzj (fun _ => ?_) fun _ => ?_)))))
  refine EX_retK2 (b := b6) rfl rfl rfl rfl zpk rfl fun w' hw => ?_
  exact ⟨z, G2, hz, rfl, g2, hw.ent (Ent.cons zpk Ent.nil)⟩
set_option maxHeartbeats 16000000 in
set_option maxRecDepth 100000 in
theorem byBoth_union (a b : ArrM) (G : Rd) (w : World) (hS : Rd.le G w.cell?) (ha : ArrG G a) (hb : ArrG G b) (h1 : a.arr.bad = 0) (h2 : b.arr.bad = 0) :
    Calls Tryz.prog 41 #[.int .i64 28, arrV a, arrV b] w (ResT (byBothF 28 a.arr b.arr) G w) := by
  refine enterR (args := [_, _, _]) (m := []) (F := []) hS.sub rfl Tryz.func41 rfl Tryz.ntmps41 (by simp) ?_
  clear hS
  have hF : byBothF 28 a.arr b.arr = unionF a.arr b.arr := rfl
  rw [hF]
  clear hF
  ((repeat' (first|refine zza ?_|refine zc9 ?_|refine zzb fun w hw => ?_|refine zzh fun _ => ?_|refine zzi fun _ _ => ?_|refine zu1 ?_|refine zu2 ?_|refine zu3 ?_|refine zu4 fun _ => ?_|refine zzj (fun _ => ?_) fun _ => ?_)); (repeat' (refine CW_seq ?_; (repeat' (first|refine zza ?_|refine zc9 ?_|refine zzb fun w hw => ?_|refine zzh fun _ => ?_|refine zzi fun _ _ => ?_|refine zu1 ?_|refine zu2 ?_|refine zu3 ?_|refine zu4 fun _ => ?_|refine zzj (fun _ => ?_) fun _ => ?_)))))
  rename_i b4 b5 b6
  refine WL_callT (r := [zB b6, boxB b4 a, boxB b5 b]) zent rfl rfl rfl (fun W hW => seek_Union a b G W (fun x u e => (hW x u e).1) ha hb h1 h2) ?_
  rintro z G2 hz g2
  ((repeat' (first|refine zza ?_|refine zc9 ?_|refine zzb fun w hw => ?_|refine zzh fun _ => ?_|refine zzi fun _ _ => ?_|refine zu1 ?_|refine zu2 ?_|refine zu3 ?_|refine zu4 fun _ => ?_|refine zzj (fun _ => ?_) fun _ => ?_)); (repeat' (refine CW_seq ?_; (repeat' (first|refine zza ?_|refine zc9 ?_|refine zzb fun w hw => ?_|refine zzh fun _ => ?_|refine zzi fun _ _ => ?_|refine zu1 ?_|refine zu2 ?_|refine zu3 ?_|refine zu4 fun _ => ?_|refine zzj (fun _ => ?_) fun _ => ?_)))))
  refine EX_retK2 (b := b6) rfl rfl rfl rfl zpk rfl fun w' hw => ?_
  exact ⟨z, G2, hz, rfl, g2, hw.ent (Ent.cons zpk Ent.nil)⟩
set_option maxHeartbeats 16000000 in
set_option maxRecDepth 100000 in
theorem byBoth_meet (a b : ArrM) (G : Rd) (w : World) (hS : Rd.le G w.cell?) (ha : ArrG G a) (hb : ArrG G b) (h1 : a.arr.bad = 0) (h2 : b.arr.bad = 0) :
    Calls Tryz.prog 41 #[.int .i64 29, arrV a, arrV b] w (ResT (byBothF 29 a.arr b.arr) G w) := by
  refine enterR (args := [_, _, _]) (m := []) (F := []) hS.sub rfl Tryz.func41 rfl Tryz.ntmps41 (by simp) ?_
  clear hS
  have hF : byBothF 29 a.arr b.arr = meetF a.arr b.arr := rfl
  rw [hF]
  clear hF
  ((repeat' (first|refine zza ?_|refine zc9 ?_|refine zzb fun w hw => ?_|refine zzh fun _ => ?_|refine zzi fun _ _ => ?_|refine zu1 ?_|refine zu2 ?_|refine zu3 ?_|refine zu4 fun _ => ?_|refine zzj (fun _ => ?_) fun _ => ?_)); (repeat' (refine CW_seq ?_; (repeat' (first|refine zza ?_|refine zc9 ?_|refine zzb fun w hw => ?_|refine zzh fun _ => ?_|refine zzi fun _ _ => ?_|refine zu1 ?_|refine zu2 ?_|refine zu3 ?_|refine zu4 fun _ => ?_|refine zzj (fun _ => ?_) fun _ => ?_)))))
  rename_i b4 b5 b6
  refine WL_callT (r := [zB b6, boxB b4 a, boxB b5 b]) zent rfl rfl rfl (fun W hW => seek_Meet a b G W (fun x u e => (hW x u e).1) ha hb h1 h2) ?_
  rintro z G2 hz g2
  ((repeat' (first|refine zza ?_|refine zc9 ?_|refine zzb fun w hw => ?_|refine zzh fun _ => ?_|refine zzi fun _ _ => ?_|refine zu1 ?_|refine zu2 ?_|refine zu3 ?_|refine zu4 fun _ => ?_|refine zzj (fun _ => ?_) fun _ => ?_)); (repeat' (refine CW_seq ?_; (repeat' (first|refine zza ?_|refine zc9 ?_|refine zzb fun w hw => ?_|refine zzh fun _ => ?_|refine zzi fun _ _ => ?_|refine zu1 ?_|refine zu2 ?_|refine zu3 ?_|refine zu4 fun _ => ?_|refine zzj (fun _ => ?_) fun _ => ?_)))))
  refine EX_retK2 (b := b6) rfl rfl rfl rfl zpk rfl fun w' hw => ?_
  exact ⟨z, G2, hz, rfl, g2, hw.ent (Ent.cons zpk Ent.nil)⟩
set_option maxHeartbeats 16000000 in
set_option maxRecDepth 100000 in
theorem byBoth_each (f : Int) (a b : ArrM) (G : Rd) (w : World) (hS : Rd.le G w.cell?) (ha : ArrG G a) (hb : ArrG G b) (q1 : f ≠ 19) (q2 : f ≠ 24) (q3 : f ≠ 25) (q4 : f ≠ 17) (q5 : f ≠ 28) (q6 : f ≠ 29) (q7 : f ≠ 32) :
    Calls Tryz.prog 41 #[.int .i64 f, arrV a, arrV b] w (ResT (byBothF f a.arr b.arr) G w) := by
  refine enterR (args := [_, _, _]) (m := []) (F := []) hS.sub rfl Tryz.func41 rfl Tryz.ntmps41 (by simp) ?_
  clear hS
  have hF : byBothF f a.arr b.arr = eachTwo f a.arr b.arr := by
    unfold byBothF
    rw [if_neg q1, if_neg q2, if_neg q3, if_neg q4, if_neg q5, if_neg q6, if_neg q7]
  rw [hF]
  clear hF
  ((repeat' (first|refine zza ?_|refine zc9 ?_|refine zzb fun w hw => ?_|refine zzh fun _ => ?_|refine zzi fun _ _ => ?_|refine zu1 ?_|refine zu2 ?_|refine zu3 ?_|refine zu4 fun _ => ?_|refine zzj (fun _ => ?_) fun _ => ?_)); (repeat' (refine CW_seq ?_; (repeat' (first|refine zza ?_|refine zc9 ?_|refine zzb fun w hw => ?_|refine zzh fun _ => ?_|refine zzi fun _ _ => ?_|refine zu1 ?_|refine zu2 ?_|refine zu3 ?_|refine zu4 fun _ => ?_|refine zzj (fun _ => ?_) fun _ => ?_)))))
  rename_i b4 b5 b6
  refine WL_callT (r := [zB b6, boxB b4 a, boxB b5 b]) zent rfl rfl rfl (fun W hW => each_Two f a b G W (fun x u e => (hW x u e).1) ha hb) ?_
  rintro z G2 hz g2
  ((repeat' (first|refine zza ?_|refine zc9 ?_|refine zzb fun w hw => ?_|refine zzh fun _ => ?_|refine zzi fun _ _ => ?_|refine zu1 ?_|refine zu2 ?_|refine zu3 ?_|refine zu4 fun _ => ?_|refine zzj (fun _ => ?_) fun _ => ?_)); (repeat' (refine CW_seq ?_; (repeat' (first|refine zza ?_|refine zc9 ?_|refine zzb fun w hw => ?_|refine zzh fun _ => ?_|refine zzi fun _ _ => ?_|refine zu1 ?_|refine zu2 ?_|refine zu3 ?_|refine zu4 fun _ => ?_|refine zzj (fun _ => ?_) fun _ => ?_)))))
  refine EX_retK2 (b := b6) rfl rfl rfl rfl zpk rfl fun w' hw => ?_
  exact ⟨z, G2, hz, rfl, g2, hw.ent (Ent.cons zpk Ent.nil)⟩
set_option maxHeartbeats 16000000 in
set_option maxRecDepth 100000 in
theorem byBoth_same (a b : ArrM) (G : Rd) (w : World) (hS : Rd.le G w.cell?) (ha : ArrG G a) (hb : ArrG G b) (h1 : a.arr.bad = 0) (h2 : b.arr.bad = 0) :
    Calls Tryz.prog 41 #[.int .i64 32, arrV a, arrV b] w (ResT (byBothF 32 a.arr b.arr) G w) := by
  refine enterR (args := [_, _, _]) (m := []) (F := []) hS.sub rfl Tryz.func41 rfl Tryz.ntmps41 (by simp) ?_
  clear hS
  have hM := fun W (h : Rd.le G W.cell?) => arr_Match a b G W h ha hb
  have hm0 : (matchF a.arr b.arr).2 = 0 := by
    unfold matchF
    rw [if_neg (by simp [h1]), if_neg (by simp [h2])]
  rw [hm0, errV_zero] at hM
  have hF : byBothF 32 a.arr b.arr = (0, ⟨false, [], [if (matchF a.arr b.arr).1 = true then 1 else 0]⟩) := rfl
  rw [hF]
  clear hF hm0
  generalize (matchF a.arr b.arr).1 = p at *
  ((repeat' (first|refine zza ?_|refine zc9 ?_|refine zzb fun w hw => ?_|refine zzh fun _ => ?_|refine zzi fun _ _ => ?_|refine zu1 ?_|refine zu2 ?_|refine zu3 ?_|refine zu4 fun _ => ?_|refine zzj (fun _ => ?_) fun _ => ?_)); (repeat' (refine CW_seq ?_; (repeat' (first|refine zza ?_|refine zc9 ?_|refine zzb fun w hw => ?_|refine zzh fun _ => ?_|refine zzi fun _ _ => ?_|refine zu1 ?_|refine zu2 ?_|refine zu3 ?_|refine zu4 fun _ => ?_|refine zzj (fun _ => ?_) fun _ => ?_)))))
  rename_i b4 b5 b6
  refine WL_callV rfl rfl rfl (fun W hW => hM W (hW.le zpk)) ?_
  clear hM
  cases p with
  | true =>
    ((repeat' (first|refine zza ?_|refine zc9 ?_|refine zzb fun w hw => ?_|refine zzh fun _ => ?_|refine zzi fun _ _ => ?_|refine zu1 ?_|refine zu2 ?_|refine zu3 ?_|refine zu4 fun _ => ?_|refine zzj (fun _ => ?_) fun _ => ?_)); (repeat' (refine CW_seq ?_; (repeat' (first|refine zza ?_|refine zc9 ?_|refine zzb fun w hw => ?_|refine zzh fun _ => ?_|refine zzi fun _ _ => ?_|refine zu1 ?_|refine zu2 ?_|refine zu3 ?_|refine zu4 fun _ => ?_|refine zzj (fun _ => ?_) fun _ => ?_)))))
    rename_i bs b12
    refine WL_op rfl rfl (y_indexN (i := 0) (sz := 1) rfl rfl rfl (by decide)) ?_
    ((repeat' (first|refine zza ?_|refine zc9 ?_|refine zzb fun w hw => ?_|refine zzh fun _ => ?_|refine zzi fun _ _ => ?_|refine zu1 ?_|refine zu2 ?_|refine zu3 ?_|refine zu4 fun _ => ?_|refine zzj (fun _ => ?_) fun _ => ?_)); (repeat' (refine CW_seq ?_; (repeat' (first|refine zza ?_|refine zc9 ?_|refine zzb fun w hw => ?_|refine zzh fun _ => ?_|refine zzi fun _ _ => ?_|refine zu1 ?_|refine zu2 ?_|refine zu3 ?_|refine zu4 fun _ => ?_|refine zzj (fun _ => ?_) fun _ => ?_)))))
    refine EX_retK2 (b := b6) rfl rfl rfl rfl zpk rfl fun w' hw => ?_
    exact ResT.num (v := 1) (b := bs) ⟨by decide, by decide⟩ (hw.ent (Ent.cons zpk (Ent.consK (b := bs) (k := Ent.nil) (by repeat (first | exact .here | apply Pick.there)))))
  | false =>
    ((repeat' (first|refine zza ?_|refine zc9 ?_|refine zzb fun w hw => ?_|refine zzh fun _ => ?_|refine zzi fun _ _ => ?_|refine zu1 ?_|refine zu2 ?_|refine zu3 ?_|refine zu4 fun _ => ?_|refine zzj (fun _ => ?_) fun _ => ?_)); (repeat' (refine CW_seq ?_; (repeat' (first|refine zza ?_|refine zc9 ?_|refine zzb fun w hw => ?_|refine zzh fun _ => ?_|refine zzi fun _ _ => ?_|refine zu1 ?_|refine zu2 ?_|refine zu3 ?_|refine zu4 fun _ => ?_|refine zzj (fun _ => ?_) fun _ => ?_)))))
    rename_i bs b12
    refine EX_retK2 (b := b6) rfl rfl rfl rfl zpk rfl fun w' hw => ?_
    exact ResT.num (v := 0) (b := bs) zero_I (hw.ent (Ent.cons zpk (Ent.cons zpk Ent.nil)))
end Go.Proofs.YtadlpfbjnpbnoaaGreatDoor
