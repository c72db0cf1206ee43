/-
  sound: effectOf, reach.
  sound: past.
  sound.Depths.
-/
import Derived.Test.YtdmapiaejcnibaaDoorGo
import Derived.Test.YtdmapiaejcnibaaDoorSound1
import Derived.Test.YtdmapiaejcnibaaDoorSoundRun
import Derived.Test.YtdmapiaejcnibaaDoorDefer
import Derived.Test.YtdmapiaejcnibaaDoorTokRow
import Derived.Test.YtdmapiaejcnibaaDoorRetD
namespace Go.Proofs.YtdmapiaejcnibaaDoor
open Go.RowKit

set_option maxHeartbeats 8000000 in
set_option maxRecDepth 100000 in
theorem sound_effectOf (i : InsM) (w : World) (hf : formedF i.ins = true) :
    Calls Tryd.prog 37 #[.agg (insE i).toArray] w fun e w' => e = .returned (.agg #[.int .i64 (takesF i.ins), .int .i64 (laysF i.ins)]) ∧ Below w.heap.size w w' := by
  obtain ⟨op, aop, af, ag, n, dst, ⟨p, c, xs⟩, text⟩ := i
  dsimp only [InsM.ins, insE] at hf ⊢
  obtain ⟨h1, h2, h3, h4⟩ := formed_op hf
  dsimp only at h1 h2 h3 h4
  clear hf
  refine enter (args := [_]) (m := []) (F := []) Tryd.func37 rfl Tryd.ntmps37 (by simp) rfl ?_
  have hcases : op = 1 ∨ op = 2 ∨ op = 3 ∨ op = 4 ∨ op = 5 ∨ op = 6 ∨ op = 7 ∨ op = 8 ∨ op = 9 ∨ op = 10 ∨ op = 11 := by omega
  rcases hcases with rfl | rfl | rfl | rfl | rfl | rfl | rfl | rfl | rfl | rfl | rfl
  all_goals (repeat' (first|refine zza ?_|refine zc9 ?_|refine zzb fun w hw => ?_|refine zzh fun _ => ?_|refine zzi fun _ _ => ?_|refine zv1 ?_|refine zv2 ?_|refine zzj (fun _ => ?_) fun _ => ?_))
  all_goals (try refine CW_seq ?_)
  all_goals (repeat' (first|refine zza ?_|refine zc9 ?_|refine zzb fun w hw => ?_|refine zzh fun _ => ?_|refine zzi fun _ _ => ?_|refine zv1 ?_|refine zv2 ?_|refine zzj (fun _ => ?_) fun _ => ?_))
  all_goals (refine ⟨?_, hw.below⟩; simp [takesF, laysF]; try rfl)

/-- the walk's variable -/
def wlk (b : Nat) (cp : Option Addr) (cn cc : Nat) (dp : Option Addr) (dn dc : Nat) (tp : Option Addr) (tn tc : Nat) : HP := blk b 75 #[.slice cp cn cc, .slice dp dn dc, .slice tp tn tc]
/-- all that the walk holds -/
def wlkM (b : Nat) (cp : Option Addr) (cn cc : Nat) (dp : Option Addr) (dc : Nat) (tp : Option Addr) (tc : Nat) (D T : List Int) : List HP :=
  [blk b 75 #[.slice cp cn cc, .slice dp D.length dc, .slice tp T.length tc], sl 3 1 dp D.length dc (D.map (Value.int .i64)), sl 3 1 tp T.length tc (T.map (Value.int .i64))]
set_option maxHeartbeats 8000000 in
set_option maxRecDepth 100000 in
theorem sound_reach (b : Nat) (cp : Option Addr) (cc : Nat) (dp : Option Addr) (dc : Nat) (tp : Option Addr) (tc : Nat) (D T : List Int) (j d : Int) (G : Rd) (w : World) (fp : List Nat) (hm : Own (wlkM b cp D.length cc dp dc tp tc D T) fp w) (hs : Rd.sub G fp w) (hj : 0 ≤ j) (hT : T.length ≤ 100000) :
    Calls Tryd.prog 25 #[.pointer (some ⟨b, 0, none⟩), .int .i64 j, .int .i64 d] w fun e w' => ∃ x : Option Addr × Nat, True ∧ e = .returned (errV 51 (reachF D T j d).1) ∧ Holds w fp (ro w fp G :: wlkM b cp D.length cc dp dc x.1 x.2 (reachF D T j d).2.1 (reachF D T j d).2.2) w' := by
  obtain ⟨k, rfl⟩ := Int.eq_ofNat_of_zero_le hj
  unfold wlkM at hm ⊢
  refine enterR (args := [_, _, _]) hs hm Tryd.func25 rfl Tryd.ntmps25 (by simp) ?_
  by_cases h1 : (D.length : Int) ≤ (k : Int)
  · have hf : reachF D T k d = (9, D, T) := by unfold reachF; rw [if_pos h1]
    rw [hf]
    (repeat' (first|refine zza ?_|refine zc9 ?_|refine zzb fun w hw => ?_|refine zzh fun _ => ?_|refine zzi fun _ _ => ?_|refine zv1 ?_|refine zv2 ?_|refine zzj (fun _ => ?_) fun _ => ?_))
    exact ⟨(tp, tc), trivial, rfl, hw.ent zent⟩
  have hkn : k < D.length := by omega
  by_cases h2 : D.getD k 0 = d
  · have hf : reachF D T k d = (0, D, T) := by unfold reachF; rw [if_neg h1, if_pos (by simpa using h2)]
    rw [hf]
    (repeat' (first|refine zza ?_|refine zc9 ?_|refine zzb fun w hw => ?_|refine zzh fun _ => ?_|refine zzi fun _ _ => ?_|refine zv1 ?_|refine zv2 ?_|refine zzj (fun _ => ?_) fun _ => ?_))
    exact ⟨(tp, tc), trivial, rfl, hw.ent zent⟩
  by_cases h3 : 0 ≤ D.getD k 0
  · have hf : reachF D T k d = (9, D, T) := by unfold reachF; rw [if_neg h1, if_neg (by simpa using h2), if_pos (by simpa using h3)]
    rw [hf]
    (repeat' (first|refine zza ?_|refine zc9 ?_|refine zzb fun w hw => ?_|refine zzh fun _ => ?_|refine zzi fun _ _ => ?_|refine zv1 ?_|refine zv2 ?_|refine zzj (fun _ => ?_) fun _ => ?_))
    exact ⟨(tp, tc), trivial, rfl, hw.ent zent⟩
  · have hf : reachF D T k d = (0, D.set k d, T ++ [(k : Int)]) := by unfold reachF; rw [if_neg h1, if_neg (by simpa using h2), if_neg (by simpa using h3)]; rfl
    rw [hf]
    (repeat' (first|refine zza ?_|refine zc9 ?_|refine zzb fun w hw => ?_|refine zzh fun _ => ?_|refine zzi fun _ _ => ?_|refine zv1 ?_|refine zv2 ?_|refine zzj (fun _ => ?_) fun _ => ?_))
    rename_i b2 q2 c2
    refine ⟨(q2, c2), trivial, rfl, ?_⟩
    dsimp only
    rw [List.length_set, List.length_append, List.map_append, List.map_set]
    exact hw.ent zent

/-- the walk's things, their lengths told apart -/
def wlkN (b : Nat) (cp : Option Addr) (n cc : Nat) (dp : Option Addr) (dc : Nat) (tp : Option Addr) (m tc : Nat) (D T : List Int) : List HP :=
  [blk b 75 #[.slice cp n cc, .slice dp n dc, .slice tp m tc], sl 3 1 dp n dc (D.map (Value.int .i64)), sl 3 1 tp m tc (T.map (Value.int .i64))]
/-- .. as a call's end of a known outcome -/
theorem reach_to {x : Int} {D D' T T' : List Int} {n m m' : Nat} {j d : Int} (hf : reachF D T j d = (x, D', T')) (hD : D.length = n) (hT : T.length = m) (hT' : T'.length = m') (hj : 0 ≤ j) (hb : m ≤ 100000) (b : Nat) (cp : Option Addr) (cc : Nat) (dp : Option Addr) (dc : Nat) (tp : Option Addr) (tc : Nat) (G : Rd) (w : World) (fp : List Nat) (hm : Own (wlkN b cp n cc dp dc tp m tc D T) fp w) (hs : Rd.sub G fp w) :
    Calls Tryd.prog 25 #[.pointer (some ⟨b, 0, none⟩), .int .i64 j, .int .i64 d] w fun e w' => ∃ z : Option Addr × Nat, True ∧ e = .returned (errV 51 x) ∧ Holds w fp (ro w fp G :: wlkN b cp n cc dp dc z.1 m' z.2 D' T') w' := by
  subst hD hT hT'
  have := sound_reach b cp cc dp dc tp tc D T j d G w fp hm hs hj hb
  rw [hf] at this
  unfold wlkM at this
  dsimp only at this
  rw [(reachF_len hf).1] at this
  exact this
end Go.Proofs.YtdmapiaejcnibaaDoor

namespace Go.Proofs.YtdmapiaejcnibaaDoor
open Go.RowKit

/-- what past tells of a place -/
def PastPost (b : Nat) (cp : Option Addr) (n cc : Nat) (dp : Option Addr) (dc : Nat) (G : Rd) (w : World) (fp : List Nat) (q : Int × List Int × List Int) (e : Ending) (w' : World) : Prop :=
  ∃ z : Option Addr × Nat, True ∧ e = .returned (errV 51 q.1) ∧ Holds w fp (ro w fp G :: wlkN b cp n cc dp dc z.1 q.2.2.length z.2 q.2.1 q.2.2) w'
theorem goes_stuck {x : Ins} {i d : Int} (h : d < takesF x ∨ (x.op = 11 ∧ d ≠ 1)) : goesF x i d = none := by unfold goesF; rw [if_pos h]
theorem goes_ret {x : Ins} {i d : Int} (h : ¬ (d < takesF x ∨ (x.op = 11 ∧ d ≠ 1))) (ho : x.op = 11) : goesF x i d = some [] := by unfold goesF; rw [if_neg h, if_pos ho]
theorem goes_call {x : Ins} {i d : Int} (h : ¬ (d < takesF x ∨ (x.op = 11 ∧ d ≠ 1))) (ho : x.op = 10) : goesF x i d = some [(x.«to», 0), (i + 1, d - takesF x + 1)] := by unfold goesF; rw [if_neg h, if_neg (by omega), if_pos ho]
theorem goes_test {x : Ins} {i d : Int} (h : ¬ (d < takesF x ∨ (x.op = 11 ∧ d ≠ 1))) (ho : x.op = 9) : goesF x i d = some [(x.«to», d - 1), (i + 1, d - 1)] := by unfold goesF; rw [if_neg h, if_neg (by omega), if_neg (by omega), if_pos ho]
theorem goes_on {x : Ins} {i d : Int} (h : ¬ (d < takesF x ∨ (x.op = 11 ∧ d ≠ 1))) (h1 : x.op ≠ 11) (h2 : x.op ≠ 10) (h3 : x.op ≠ 9) : goesF x i d = some [(i + 1, d - takesF x + 1)] := by unfold goesF; rw [if_neg h, if_neg h1, if_neg h2, if_neg h3]

set_option maxHeartbeats 8000000 in
set_option maxRecDepth 100000 in
theorem sound_past (b : Nat) (cp : Option Addr) (cc : Nat) (dp : Option Addr) (dc : Nat) (tp : Option Addr) (tc : Nat) (code : List InsM) (D T : List Int) (i n m : Nat) (x : InsM) (G : Rd) (hR : Row insE 8 G cp cc code) (w : World) (fp : List Nat) (hm : Own (wlkN b cp n cc dp dc tp m tc D T) fp w) (hs : Rd.sub G fp w)
    (hn : code.length = n) (hl : D.length = n) (hTl : T.length = m) (hx : code[i]? = some x) (hf : formedF x.ins = true) (hto : x.op = 9 ∨ x.op = 10 → 0 ≤ x.dst) (hT : m ≤ 99990) (hd : 0 ≤ D.getD i 0 ∧ D.getD i 0 ≤ 100000) :
    Calls Tryd.prog 26 #[.pointer (some ⟨b, 0, none⟩), .int .i64 (i : Int)] w (PastPost b cp n cc dp dc G w fp (pastF x.ins D T i (D.getD i 0))) := by
  have hil : i < code.length := (List.getElem?_eq_some_iff.1 hx).1
  have hlen := hR.len
  obtain ⟨o1, o2, o8, o10⟩ := formed_op hf
  obtain ⟨t1, t2⟩ := takes_nonneg hf
  have hopx : x.ins.op = x.op := rfl
  have hlays : laysF x.ins = if x.op = 9 ∨ x.op = 11 then 0 else 1 := rfl
  have hEf := fun W => sound_effectOf x W hf
  obtain ⟨tk, htk⟩ : ∃ tk, tk = takesF x.ins := ⟨_, rfl⟩
  obtain ⟨ly, hly⟩ : ∃ ly, ly = laysF x.ins := ⟨_, rfl⟩
  unfold wlkN at hm
  refine enterR (args := [_, _]) hs hm Tryd.func26 rfl Tryd.ntmps26 (by simp) ?_
  subst hn
  rw [← htk, ← hly] at hEf
  rw [← hly] at hlays
  rw [← htk] at t1 t2
  (repeat' (first|refine zza ?_|refine zc9 ?_|refine zzb fun w hw => ?_|refine zzh fun _ => ?_|refine zzi fun _ _ => ?_|refine zv1 ?_|refine zv2 ?_|refine zzj (fun _ => ?_) fun _ => ?_))
  rename_i b5
  (apply WL_callV; rfl; rfl; rfl; (intro W hW; exact hEf W))
  refine WL_ent (Ent.consK (b' := b5) (cs' := #[.int .i64 x.op, .int .i64 x.aop, .int .i64 x.af, .int .i64 x.ag, .int .i64 x.n, .int .i64 x.dst, .slice x.nums.p x.nums.xs.length x.nums.c, .string ⟨x.text.toArray⟩]) (k := Ent.refl) .here) ?_
  by_cases hst : D.getD i 0 < tk ∨ (x.op = 11 ∧ D.getD i 0 ≠ 1)
  · have hp : pastF x.ins D T i (D.getD i 0) = (9, D, T) := by unfold pastF; rw [goes_stuck (by rw [← htk]; exact hst)]
    rw [hp]
    unfold PastPost
    rcases hst with h | ⟨h11, hne⟩
    · (repeat' (first|refine zza ?_|refine zc9 ?_|refine zzb fun w hw => ?_|refine zzh fun _ => ?_|refine zzi fun _ _ => ?_|refine zv1 ?_|refine zv2 ?_|refine zzj (fun _ => ?_) fun _ => ?_))
      exact ⟨(tp, tc), trivial, rfl, by unfold wlkN; dsimp only; rw [hTl]; exact hw.ent zent⟩
    · by_cases h : D.getD i 0 < tk
      · (repeat' (first|refine zza ?_|refine zc9 ?_|refine zzb fun w hw => ?_|refine zzh fun _ => ?_|refine zzi fun _ _ => ?_|refine zv1 ?_|refine zv2 ?_|refine zzj (fun _ => ?_) fun _ => ?_))
        exact ⟨(tp, tc), trivial, rfl, by unfold wlkN; dsimp only; rw [hTl]; exact hw.ent zent⟩
      · (repeat' (first|refine zza ?_|refine zc9 ?_|refine zzb fun w hw => ?_|refine zzh fun _ => ?_|refine zzi fun _ _ => ?_|refine zv1 ?_|refine zv2 ?_|refine zzj (fun _ => ?_) fun _ => ?_))
        exact ⟨(tp, tc), trivial, rfl, by unfold wlkN; dsimp only; rw [hTl]; exact hw.ent zent⟩
  have hst1 : ¬ D.getD i 0 < tk := fun h => hst (.inl h)
  have hst' := hst
  rw [htk] at hst'
  by_cases h11 : x.op = 11
  · have hd1 : ¬ D.getD i 0 ≠ 1 := fun h => hst (.inr ⟨h11, h⟩)
    have hp : pastF x.ins D T i (D.getD i 0) = (0, D, T) := by unfold pastF; rw [goes_ret hst' h11]; rfl
    rw [hp]
    unfold PastPost
    (repeat' (first|refine zza ?_|refine zc9 ?_|refine zzb fun w hw => ?_|refine zzh fun _ => ?_|refine zzi fun _ _ => ?_|refine zv1 ?_|refine zv2 ?_|refine zzj (fun _ => ?_) fun _ => ?_))
    exact ⟨(tp, tc), trivial, rfl, by unfold wlkN; dsimp only; rw [hTl]; exact hw.ent zent⟩
  by_cases h10 : x.op = 10
  · have hly1 : ly = 1 := by rw [hlays, if_neg (by omega)]
    obtain ⟨e1, D1, T1, hr1⟩ : ∃ e1 D1 T1, reachF D T x.dst (0) = (e1, D1, T1) := ⟨_, _, _, rfl⟩
    obtain ⟨l1, l2⟩ := reachF_len hr1
    have hp : pastF x.ins D T i (D.getD i 0) = if e1 ≠ 0 then (e1, D1, T1) else reachF D1 T1 ((i : Int) + 1) (D.getD i 0 - tk + 1) := by
      unfold pastF
      rw [goes_call hst' h10]
      exact (reachL_two hr1).trans (by rw [htk])
    rw [hp]
    unfold PastPost
    (repeat' (first|refine zza ?_|refine zc9 ?_|refine zzb fun w hw => ?_|refine zzh fun _ => ?_|refine zzi fun _ _ => ?_|refine zv1 ?_|refine zv2 ?_|refine zzj (fun _ => ?_) fun _ => ?_))
    refine WL_callUX (m1 := [blk b 75 #[.slice cp code.length cc, .slice dp code.length dc, .slice tp m tc], sl 3 1 dp code.length dc (D.map (Value.int .i64)), sl 3 1 tp m tc (T.map (Value.int .i64))]) (Ent.cons zpk (Ent.cons zpk (Ent.cons zpk (Ent.cons zpk Ent.refl)))) rfl rfl rfl (fun W fp hO hS => reach_to hr1 hl hTl rfl (hto (.inr h10)) (by omega) b cp cc dp dc tp tc G W fp hO hS) ?_
    rintro ⟨tp1, tc1⟩ _
    unfold wlkN
    dsimp only
    by_cases he : e1 = 0
    · subst he
      obtain ⟨e2, D2, T2, hr2⟩ : ∃ e2 D2 T2, reachF D1 T1 ((i : Int) + 1) (D.getD i 0 - tk + 1) = (e2, D2, T2) := ⟨_, _, _, rfl⟩
      rw [errV_zero, if_neg (by simp), hr2]
      (repeat' (first|refine zza ?_|refine zc9 ?_|refine zzb fun w hw => ?_|refine zzh fun _ => ?_|refine zzi fun _ _ => ?_|refine zv1 ?_|refine zv2 ?_|refine zzj (fun _ => ?_) fun _ => ?_))
      have hr2' : reachF D1 T1 ((i : Int) + 1) (D.getD i 0 - tk + ly) = (e2, D2, T2) := by rw [← hr2]; congr 1; omega
      refine WL_callUX (m1 := [blk b 75 #[.slice cp code.length cc, .slice dp code.length dc, .slice tp1 T1.length tc1], sl 3 1 dp code.length dc (D1.map (Value.int .i64)), sl 3 1 tp1 T1.length tc1 (T1.map (Value.int .i64))]) (Ent.cons zpk (Ent.cons zpk (Ent.cons zpk (Ent.cons zpk Ent.refl)))) rfl rfl rfl (fun W fp hO hS => reach_to hr2' (l1.trans hl) rfl rfl (by omega) (by omega) b cp cc dp dc tp1 tc1 G W fp hO hS) ?_
      rintro ⟨tp2, tc2⟩ _
      unfold wlkN
      dsimp only
      (repeat' (first|refine zza ?_|refine zc9 ?_|refine zzb fun w hw => ?_|refine zzh fun _ => ?_|refine zzi fun _ _ => ?_|refine zv1 ?_|refine zv2 ?_|refine zzj (fun _ => ?_) fun _ => ?_))
      exact ⟨(tp2, tc2), trivial, rfl, hw.ent zent⟩
    · rw [errV_ne he, if_pos he]
      (repeat' (first|refine zza ?_|refine zc9 ?_|refine zzb fun w hw => ?_|refine zzh fun _ => ?_|refine zzi fun _ _ => ?_|refine zv1 ?_|refine zv2 ?_|refine zzj (fun _ => ?_) fun _ => ?_))
      exact ⟨(tp1, tc1), trivial, by rw [errV_ne he], hw.ent zent⟩
  by_cases h9 : x.op = 9
  · have ht9 : takesF x.ins = 1 := by unfold takesF; rw [if_neg (by omega), if_neg (by omega), if_neg (by omega), if_neg (by omega)]
    have hly1 : ly = 0 := by rw [hlays, if_pos (.inl h9)]
    obtain ⟨e1, D1, T1, hr1⟩ : ∃ e1 D1 T1, reachF D T x.dst (D.getD i 0 - 1) = (e1, D1, T1) := ⟨_, _, _, rfl⟩
    obtain ⟨l1, l2⟩ := reachF_len hr1
    have hp : pastF x.ins D T i (D.getD i 0) = if e1 ≠ 0 then (e1, D1, T1) else reachF D1 T1 ((i : Int) + 1) (D.getD i 0 - 1) := by
      unfold pastF
      rw [goes_test hst' h9]
      exact reachL_two hr1
    rw [hp]
    unfold PastPost
    (repeat' (first|refine zza ?_|refine zc9 ?_|refine zzb fun w hw => ?_|refine zzh fun _ => ?_|refine zzi fun _ _ => ?_|refine zv1 ?_|refine zv2 ?_|refine zzj (fun _ => ?_) fun _ => ?_))
    refine WL_callUX (m1 := [blk b 75 #[.slice cp code.length cc, .slice dp code.length dc, .slice tp m tc], sl 3 1 dp code.length dc (D.map (Value.int .i64)), sl 3 1 tp m tc (T.map (Value.int .i64))]) (Ent.cons zpk (Ent.cons zpk (Ent.cons zpk (Ent.cons zpk Ent.refl)))) rfl rfl rfl (fun W fp hO hS => reach_to hr1 hl hTl rfl (hto (.inl h9)) (by omega) b cp cc dp dc tp tc G W fp hO hS) ?_
    rintro ⟨tp1, tc1⟩ _
    unfold wlkN
    dsimp only
    by_cases he : e1 = 0
    · subst he
      obtain ⟨e2, D2, T2, hr2⟩ : ∃ e2 D2 T2, reachF D1 T1 ((i : Int) + 1) (D.getD i 0 - 1) = (e2, D2, T2) := ⟨_, _, _, rfl⟩
      rw [errV_zero, if_neg (by simp), hr2]
      (repeat' (first|refine zza ?_|refine zc9 ?_|refine zzb fun w hw => ?_|refine zzh fun _ => ?_|refine zzi fun _ _ => ?_|refine zv1 ?_|refine zv2 ?_|refine zzj (fun _ => ?_) fun _ => ?_))
      have hr2' : reachF D1 T1 ((i : Int) + 1) (D.getD i 0 - tk + ly) = (e2, D2, T2) := by rw [← hr2]; congr 1; omega
      refine WL_callUX (m1 := [blk b 75 #[.slice cp code.length cc, .slice dp code.length dc, .slice tp1 T1.length tc1], sl 3 1 dp code.length dc (D1.map (Value.int .i64)), sl 3 1 tp1 T1.length tc1 (T1.map (Value.int .i64))]) (Ent.cons zpk (Ent.cons zpk (Ent.cons zpk (Ent.cons zpk Ent.refl)))) rfl rfl rfl (fun W fp hO hS => reach_to hr2' (l1.trans hl) rfl rfl (by omega) (by omega) b cp cc dp dc tp1 tc1 G W fp hO hS) ?_
      rintro ⟨tp2, tc2⟩ _
      unfold wlkN
      dsimp only
      (repeat' (first|refine zza ?_|refine zc9 ?_|refine zzb fun w hw => ?_|refine zzh fun _ => ?_|refine zzi fun _ _ => ?_|refine zv1 ?_|refine zv2 ?_|refine zzj (fun _ => ?_) fun _ => ?_))
      exact ⟨(tp2, tc2), trivial, rfl, hw.ent zent⟩
    · rw [errV_ne he, if_pos he]
      (repeat' (first|refine zza ?_|refine zc9 ?_|refine zzb fun w hw => ?_|refine zzh fun _ => ?_|refine zzi fun _ _ => ?_|refine zv1 ?_|refine zv2 ?_|refine zzj (fun _ => ?_) fun _ => ?_))
      exact ⟨(tp1, tc1), trivial, by rw [errV_ne he], hw.ent zent⟩
  have hly1 : ly = 1 := by rw [hlays, if_neg (by omega)]
  obtain ⟨e2, D2, T2, hr2⟩ : ∃ e2 D2 T2, reachF D T ((i : Int) + 1) (D.getD i 0 - tk + 1) = (e2, D2, T2) := ⟨_, _, _, rfl⟩
  have hp : pastF x.ins D T i (D.getD i 0) = (e2, D2, T2) := by
    unfold pastF
    rw [goes_on hst' h11 h10 h9]
    exact (reachL_one _ _ _ _).trans (by rw [← htk]; exact hr2)
  rw [hp]
  unfold PastPost
  (repeat' (first|refine zza ?_|refine zc9 ?_|refine zzb fun w hw => ?_|refine zzh fun _ => ?_|refine zzi fun _ _ => ?_|refine zv1 ?_|refine zv2 ?_|refine zzj (fun _ => ?_) fun _ => ?_))
  have hr2' : reachF D T ((i : Int) + 1) (D.getD i 0 - tk + ly) = (e2, D2, T2) := by rw [← hr2]; congr 1; omega
  refine WL_callUX (m1 := [blk b 75 #[.slice cp code.length cc, .slice dp code.length dc, .slice tp m tc], sl 3 1 dp code.length dc (D.map (Value.int .i64)), sl 3 1 tp m tc (T.map (Value.int .i64))]) (Ent.cons zpk (Ent.cons zpk (Ent.cons zpk (Ent.cons zpk Ent.refl)))) rfl rfl rfl (fun W fp hO hS => reach_to hr2' hl hTl rfl (by omega) (by omega) b cp cc dp dc tp tc G W fp hO hS) ?_
  rintro ⟨tp2, tc2⟩ _
  unfold wlkN
  dsimp only
  (repeat' (first|refine zza ?_|refine zc9 ?_|refine zzb fun w hw => ?_|refine zzh fun _ => ?_|refine zzi fun _ _ => ?_|refine zv1 ?_|refine zv2 ?_|refine zzj (fun _ => ?_) fun _ => ?_))
  exact ⟨(tp2, tc2), trivial, rfl, hw.ent zent⟩
end Go.Proofs.YtdmapiaejcnibaaDoor

namespace Go.Proofs.YtdmapiaejcnibaaDoor
open Go.RowKit

/-- what Depths tells -/
def DepthsPost (cs : List Ins) (w : World) (e : Ending) (w' : World) : Prop :=
  ∃ (x : Int) (D : List Int) (p : Option Addr) (c : Nat), DepthsA cs x D ∧ e = .returned (.tuple #[.slice p D.length c, errV 51 x]) ∧ Holds w [] [sl 3 1 p D.length c (D.map (Value.int .i64))] w'
theorem DepthsPost.bad {cs : List Ins} {w : World} {x : Int} {w' : World} {m : List HP} (h : DepthsA cs x []) (hw : Holds w [] m w') (v : Value) (hv : v = errV 51 x) : DepthsPost cs w (.returned (.tuple #[.slice none 0 0, v])) w' :=
  ⟨x, [], none, 0, h, by rw [hv]; rfl, hw.ent (Ent.nilown Ent.nil)⟩
theorem preF_drop {n : Int} {cs : List Ins} {k : Nat} {x : Ins} (hx : cs[k]? = some x) : preF n (cs.drop k) = if formedF x = false then 1 else if (x.op = 9 ∨ x.op = 10) ∧ (x.«to» < 0 ∨ n ≤ x.«to») then 5 else preF n (cs.drop (k + 1)) := by
  rw [drop_cons hx, preF]
theorem rep_set (n k : Nat) (h : k < n) : (((List.replicate k (-1 : Int)) ++ List.replicate (n - k) 0).map (Value.int .i64)).set k (.int .i64 (-1)) = ((List.replicate (k + 1) (-1 : Int)) ++ List.replicate (n - (k + 1)) 0).map (Value.int .i64) := by
  rw [← List.map_set (f := Value.int .i64) (a := -1)]
  congr 1
  rw [List.set_append_right _ _ (by simp), List.length_replicate, Nat.sub_self, show n - k = (n - (k + 1)) + 1 by omega, List.replicate_succ, List.set_cons_zero, List.replicate_succ', List.append_assoc]
  rfl
theorem past_to {x : InsM} {D D2 T T2 : List Int} {n m m2 i : Nat} {e2 : Int} (hq : pastF x.ins D T i (D.getD i 0) = (e2, D2, T2)) (hT2 : T2.length = m2) (b : Nat) (cp : Option Addr) (cc : Nat) (dp : Option Addr) (dc : Nat) (tp : Option Addr) (tc : Nat) (code : List InsM) (G : Rd) (hR : Row insE 8 G cp cc code) (w : World) (fp : List Nat) (hm : Own (wlkN b cp n cc dp dc tp m tc D T) fp w) (hs : Rd.sub G fp w)
    (hn : code.length = n) (hl : D.length = n) (hTl : T.length = m) (hx : code[i]? = some x) (hf : formedF x.ins = true) (hto : x.op = 9 ∨ x.op = 10 → 0 ≤ x.dst) (hT : m ≤ 99990) (hd : 0 ≤ D.getD i 0 ∧ D.getD i 0 ≤ 100000) :
    Calls Tryd.prog 26 #[.pointer (some ⟨b, 0, none⟩), .int .i64 (i : Int)] w fun e w' => ∃ z : Option Addr × Nat, True ∧ e = .returned (errV 51 e2) ∧ Holds w fp (ro w fp G :: wlkN b cp n cc dp dc z.1 m2 z.2 D2 T2) w' := by
  have := sound_past b cp cc dp dc tp tc code D T i n m x G hR w fp hm hs hn hl hTl hx hf hto hT hd
  unfold PastPost at this
  rw [hq] at this
  subst hT2
  exact this
theorem DepthsA.err {cs : List Ins} (h : ¬ 2000 < cs.length) (hz : preF cs.length cs = 0) (hb : Bad cs) : DepthsA cs 9 [] := by
  unfold DepthsA
  rw [if_neg h, if_neg (fun k => k hz)]
  exact .inl ⟨rfl, rfl, hb⟩
theorem DepthsA.ok {cs : List Ins} {D : List Int} (h : ¬ 2000 < cs.length) (hz : preF cs.length cs = 0) (hb : DepthsF cs D) : DepthsA cs 0 D := by
  unfold DepthsA
  rw [if_neg h, if_neg (fun k => k hz)]
  exact .inr ⟨rfl, hb⟩
set_option maxHeartbeats 8000000 in
set_option maxRecDepth 100000 in
theorem sound_Depths (p : Option Addr) (c : Nat) (code : List InsM) (w : World) (hR : Row insE 8 w.cell? p c code) (htx : ∀ x ∈ code, x.text.length ≤ 4294967280 ∧ x.nums.xs.length ≤ 4294967280) (hG : GlobA w) :
    Calls Tryd.prog 13 #[.slice p code.length c] w (DepthsPost (code.map InsM.ins) w) := by
  have hlen := hR.len
  obtain ⟨cs, hcs⟩ : ∃ cs, code.map InsM.ins = cs := ⟨_, rfl⟩
  have hcl : cs.length = code.length := by rw [← hcs]; simp
  rw [hcs]
  refine enterR (G := w.cell?) (args := [_]) (m := []) (Rd.sub_cell w) rfl Tryd.func13 rfl Tryd.ntmps13 (by simp) ?_
  by_cases h2000 : (2000 : Int) < (code.length : Int)
  · (repeat' (first|refine zza ?_|refine zc9 ?_|refine zzb fun w hw => ?_|refine zzh fun _ => ?_|refine zzi fun _ _ => ?_|refine zv1 ?_|refine zv2 ?_|refine zzj (fun _ => ?_) fun _ => ?_))
    exact DepthsPost.bad (by unfold DepthsA; rw [if_pos (by omega)]; exact ⟨rfl, rfl⟩) hw _ rfl
  (repeat' (first|refine zza ?_|refine zc9 ?_|refine zzb fun w hw => ?_|refine zzh fun _ => ?_|refine zzi fun _ _ => ?_|refine zv1 ?_|refine zv2 ?_|refine zzj (fun _ => ?_) fun _ => ?_))
  refine CW_loopK [(0,_),(15,_),(16,_)] zcov (fun x : Nat => [(17, .int .i64 x)]) (fun _ => [ro w [] w.cell?]) (fun x => x ≤ code.length ∧ preF cs.length cs = preF cs.length (cs.drop x)) (fun x => code.length - x) 0 ⟨Nat.zero_le _, rfl⟩ zcov zent ?_
  rintro k ⟨hk, hz⟩
  by_cases hlt : k < code.length
  · obtain ⟨x, hg⟩ : ∃ x, code[k]? = some x := ⟨code[k], by simp [hlt]⟩
    have hgc : cs[k]? = some x.ins := by rw [← hcs, List.getElem?_map, hg]; rfl
    obtain ⟨ht1, ht2⟩ := htx x (List.mem_of_getElem? hg)
    rw [preF_drop hgc] at hz
    have hF := fun W hg => sound_formed x W ht1 ht2 hg
    have hop : x.ins.op = x.op := rfl
    have hdst : x.ins.«to» = x.dst := rfl
    rw [hop, hdst] at hz
    (repeat' (first|refine zza ?_|refine zc9 ?_|refine zzb fun w hw => ?_|refine zzh fun _ => ?_|refine zzi fun _ _ => ?_|refine zv1 ?_|refine zv2 ?_|refine zzj (fun _ => ?_) fun _ => ?_))
    rename_i b5
    (apply WL_callV; rfl; rfl; rfl; (intro W hW; exact hF W (hG.below hW.below)))
    refine WL_ent (Ent.consK (b' := b5) (cs' := #[.int .i64 x.op, .int .i64 x.aop, .int .i64 x.af, .int .i64 x.ag, .int .i64 x.n, .int .i64 x.dst, .slice x.nums.p x.nums.xs.length x.nums.c, .string ⟨x.text.toArray⟩]) (k := Ent.refl) .here) ?_
    cases hfx : formedF x.ins with
    | false =>
      rw [hfx, if_pos rfl] at hz
      (repeat' (first|refine zza ?_|refine zc9 ?_|refine zzb fun w hw => ?_|refine zzh fun _ => ?_|refine zzi fun _ _ => ?_|refine zv1 ?_|refine zv2 ?_|refine zzj (fun _ => ?_) fun _ => ?_))
      exact DepthsPost.bad (by unfold DepthsA; rw [if_neg (by omega), if_pos (by rw [hz]; decide)]; exact ⟨hz.symm, rfl⟩) hw _ rfl
    | true =>
      rw [hfx, if_neg (by simp)] at hz
      by_cases h9 : x.op = 9 ∨ x.op = 10
      · by_cases hout : x.dst < 0 ∨ (code.length : Int) ≤ x.dst
        · rw [if_pos ⟨h9, by rw [hcl]; exact hout⟩] at hz
          have hbad : DepthsA cs 5 [] := by unfold DepthsA; rw [if_neg (by omega), if_pos (by rw [hz]; decide)]; exact ⟨hz.symm, rfl⟩
          by_cases h9' : x.op = 9
          · by_cases h0 : x.dst < 0
            · (repeat' (first|refine zza ?_|refine zc9 ?_|refine zzb fun w hw => ?_|refine zzh fun _ => ?_|refine zzi fun _ _ => ?_|refine zv1 ?_|refine zv2 ?_|refine zzj (fun _ => ?_) fun _ => ?_))
              exact DepthsPost.bad hbad hw _ rfl
            · (repeat' (first|refine zza ?_|refine zc9 ?_|refine zzb fun w hw => ?_|refine zzh fun _ => ?_|refine zzi fun _ _ => ?_|refine zv1 ?_|refine zv2 ?_|refine zzj (fun _ => ?_) fun _ => ?_))
              exact DepthsPost.bad hbad hw _ rfl
          · by_cases h0 : x.dst < 0
            · (repeat' (first|refine zza ?_|refine zc9 ?_|refine zzb fun w hw => ?_|refine zzh fun _ => ?_|refine zzi fun _ _ => ?_|refine zv1 ?_|refine zv2 ?_|refine zzj (fun _ => ?_) fun _ => ?_))
              exact DepthsPost.bad hbad hw _ rfl
            · (repeat' (first|refine zza ?_|refine zc9 ?_|refine zzb fun w hw => ?_|refine zzh fun _ => ?_|refine zzi fun _ _ => ?_|refine zv1 ?_|refine zv2 ?_|refine zzj (fun _ => ?_) fun _ => ?_))
              exact DepthsPost.bad hbad hw _ rfl
        · rw [if_neg (fun h => hout (by rw [hcl] at h; exact h.2))] at hz
          by_cases h9' : x.op = 9
          · (repeat' (first|refine zza ?_|refine zc9 ?_|refine zzb fun w hw => ?_|refine zzh fun _ => ?_|refine zzi fun _ _ => ?_|refine zv1 ?_|refine zv2 ?_|refine zzj (fun _ => ?_) fun _ => ?_))
            exact EX_loop' (k + 1) ⟨zcov, zent, by omega, by omega, hz⟩
          · (repeat' (first|refine zza ?_|refine zc9 ?_|refine zzb fun w hw => ?_|refine zzh fun _ => ?_|refine zzi fun _ _ => ?_|refine zv1 ?_|refine zv2 ?_|refine zzj (fun _ => ?_) fun _ => ?_))
            exact EX_loop' (k + 1) ⟨zcov, zent, by omega, by omega, hz⟩
      · rw [if_neg (fun h => h9 h.1)] at hz
        (repeat' (first|refine zza ?_|refine zc9 ?_|refine zzb fun w hw => ?_|refine zzh fun _ => ?_|refine zzi fun _ _ => ?_|refine zv1 ?_|refine zv2 ?_|refine zzj (fun _ => ?_) fun _ => ?_))
        exact EX_loop' (k + 1) ⟨zcov, zent, by omega, by omega, hz⟩
  have hkl : k = code.length := by omega
  subst hkl
  rw [List.drop_eq_nil_of_le (by omega), preF] at hz
  (repeat' (first|refine zza ?_|refine zc9 ?_|refine zzb fun w hw => ?_|refine zzh fun _ => ?_|refine zzi fun _ _ => ?_|refine zv1 ?_|refine zv2 ?_|refine zzj (fun _ => ?_) fun _ => ?_))
  rename_i bs bw
  refine CW_midM (X := Unit) [(0,_),(6,_)] zcov (fun _ => []) (fun _ => [blk bw 75 #[.slice p code.length c, .slice (some ⟨bs, 0, none⟩) code.length code.length, .slice none 0 0], sl 3 1 (some ⟨bs, 0, none⟩) code.length code.length ((List.replicate code.length (-1 : Int)).map (Value.int .i64)), ro w [] w.cell?]) (fun _ => True) ?_ (fun _ _ => ?_)
  · refine CW_loopK [(0,_),(6,_),(57,_)] zcov (fun x : Nat => [(58, .int .i64 x)]) (fun x => [blk bw 75 #[.slice p code.length c, .slice (some ⟨bs, 0, none⟩) code.length code.length, .slice none 0 0], sl 3 1 (some ⟨bs, 0, none⟩) code.length code.length (((List.replicate x (-1 : Int)) ++ List.replicate (code.length - x) 0).map (Value.int .i64)), ro w [] w.cell?]) (fun x => x ≤ code.length) (fun x => code.length - x) 0 (Nat.zero_le _) zcov (Ent.consK (k := Ent.cons zpk (Ent.cons zpk Ent.nil)) zpk) ?_
    rintro k hk
    by_cases hlt : k < code.length
    · have hrs := rep_set code.length k hlt
      (repeat' (first|refine zza ?_|refine zc9 ?_|refine zzb fun w hw => ?_|refine zzh fun _ => ?_|refine zzi fun _ _ => ?_|refine zv1 ?_|refine zv2 ?_|refine zzj (fun _ => ?_) fun _ => ?_))
      refine EX_loop' (k + 1) ⟨zcov, ?_, by omega, by omega⟩
      rw [← hrs]
      exact zent
    · have hkl : k = code.length := by omega
      subst hkl
      rw [Nat.sub_self, List.replicate_zero, List.append_nil]
      (repeat' (first|refine zza ?_|refine zc9 ?_|refine zzb fun w hw => ?_|refine zzh fun _ => ?_|refine zzi fun _ _ => ?_|refine zv1 ?_|refine zv2 ?_|refine zzj (fun _ => ?_) fun _ => ?_))
      exact EX_mid' () ⟨zcov, zent, trivial⟩
  refine CW_ent (m' := [blk bw 75 #[.slice p code.length c, .slice (some ⟨bs, 0, none⟩) code.length code.length, .slice none 0 0], sl 3 1 (some ⟨bs, 0, none⟩) code.length code.length ((List.replicate code.length (-1 : Int)).map (Value.int .i64)), sl 3 1 none 0 0 (([] : List Int).map (Value.int .i64)), ro w [] w.cell?]) (Ent.cons zpk (Ent.cons zpk (Ent.nilown (Ent.cons zpk Ent.nil)))) ?_
  have hD0 : (List.replicate code.length (-1 : Int)).length = code.length := by simp
  obtain ⟨e0, D0, T0, hr0⟩ : ∃ e0 D0 T0, reachF (List.replicate code.length (-1 : Int)) [] 0 0 = (e0, D0, T0) := ⟨_, _, _, rfl⟩
  have hno : ¬ 2000 < cs.length := by omega
  (repeat' (first|refine zza ?_|refine zc9 ?_|refine zzb fun w hw => ?_|refine zzh fun _ => ?_|refine zzi fun _ _ => ?_|refine zv1 ?_|refine zv2 ?_|refine zzj (fun _ => ?_) fun _ => ?_))
  refine WL_callUX (m1 := [blk bw 75 #[.slice p code.length c, .slice (some ⟨bs, 0, none⟩) code.length code.length, .slice none 0 0], sl 3 1 (some ⟨bs, 0, none⟩) code.length code.length ((List.replicate code.length (-1 : Int)).map (Value.int .i64)), sl 3 1 none 0 0 (([] : List Int).map (Value.int .i64))]) (Ent.cons zpk (Ent.cons zpk (Ent.cons zpk (Ent.cons zpk Ent.refl)))) rfl rfl rfl (fun W fp hO hS => reach_to hr0 hD0 rfl rfl (by omega) (by simp) bw p c (some ⟨bs, 0, none⟩) code.length none 0 _ W fp hO hS) ?_
  rintro ⟨tp0, tc0⟩ _
  unfold wlkN
  dsimp only
  by_cases hne : cs = []
  · have hc0 : code.length = 0 := by rw [← hcl, hne]; rfl
    have he0 : e0 = 9 := by
      unfold reachF at hr0
      rw [if_pos (by rw [hD0]; omega)] at hr0
      simp only [Prod.mk.injEq] at hr0
      exact hr0.1.symm
    subst he0
    rw [errV_ne (by decide)]
    (repeat' (first|refine zza ?_|refine zc9 ?_|refine zzb fun w hw => ?_|refine zzh fun _ => ?_|refine zzi fun _ _ => ?_|refine zv1 ?_|refine zv2 ?_|refine zzj (fun _ => ?_) fun _ => ?_))
    exact DepthsPost.bad (DepthsA.err hno hz (.out .start (by rw [hne]; simp))) hw _ rfl
  have hcp : 0 < code.length := by rw [← hcl]; exact List.length_pos_iff.2 hne
  have hrs := round_start hne
  rw [hcl] at hrs
  have hq0 : e0 = 0 ∧ D0 = (List.replicate code.length (-1 : Int)).set 0 0 ∧ T0 = [0] := by
    unfold reachF at hr0
    rw [if_neg (by rw [hD0]; omega), if_neg (by simp [hcp]), if_neg (by simp [hcp])] at hr0
    simp only [Prod.mk.injEq] at hr0
    exact ⟨hr0.1.symm, hr0.2.1.symm, hr0.2.2.symm⟩
  obtain ⟨rfl, rfl, rfl⟩ := hq0
  rw [errV_zero]
  (repeat' (first|refine zza ?_|refine zc9 ?_|refine zzb fun w hw => ?_|refine zzh fun _ => ?_|refine zzi fun _ _ => ?_|refine zv1 ?_|refine zv2 ?_|refine zzj (fun _ => ?_) fun _ => ?_))
  refine CW_loopK [(0,_),(6,_)] zcov (fun _ : List Int × List Int × Option Addr × Nat => []) (fun x => ro w [] w.cell? :: [blk bw 75 #[.slice p code.length c, .slice (some ⟨bs, 0, none⟩) code.length code.length, .slice x.2.2.1 x.2.1.length x.2.2.2], sl 3 1 (some ⟨bs, 0, none⟩) code.length code.length (x.1.map (Value.int .i64)), sl 3 1 x.2.2.1 x.2.1.length x.2.2.2 (x.2.1.map (Value.int .i64))]) (fun x => Round cs x.1 x.2.1 ∧ x.1.length = code.length ∧ 2 * unm x.1 + x.2.1.length ≤ 2 * code.length + 1) (fun x => 2 * unm x.1 + x.2.1.length) ((List.replicate code.length (-1 : Int)).set 0 0, [0], tp0, tc0) ⟨hrs, by simp, by have := unm_le ((List.replicate code.length (-1 : Int)).set 0 0); simp at this ⊢; omega⟩ zcov zent ?_
  rintro ⟨D, T, tp, tc⟩ ⟨hrd, hDl, hbd⟩
  dsimp only at hrd hDl hbd ⊢
  rcases List.eq_nil_or_concat T with rfl | ⟨T', j, rfl⟩
  · have hfin := hrd.end
    (repeat' (first|refine zza ?_|refine zc9 ?_|refine zzb fun w hw => ?_|refine zzh fun _ => ?_|refine zzi fun _ _ => ?_|refine zv1 ?_|refine zv2 ?_|refine zzj (fun _ => ?_) fun _ => ?_))
    exact ⟨0, D, some ⟨bs, 0, none⟩, code.length, DepthsA.ok hno hz hfin, by rw [errV_zero, hDl], by rw [hDl]; exact hw.ent zent⟩
  rw [List.concat_eq_append] at hrd hbd ⊢
  obtain ⟨j0, j1, j2⟩ := hrd.todo j (by simp)
  obtain ⟨i, rfl⟩ := Int.eq_ofNat_of_zero_le j0
  rw [Int.toNat_natCast] at j2
  have hil : i < code.length := by omega
  obtain ⟨x, hx⟩ : ∃ x, code[i]? = some x := ⟨code[i], by simp [hil]⟩
  have hxc : cs[(i : Int).toNat]? = some x.ins := by rw [Int.toNat_natCast, ← hcs, List.getElem?_map, hx]; rfl
  obtain ⟨hfx, htox⟩ := preF_zero hz x.ins (List.mem_of_getElem? hxc)
  obtain ⟨e1, D1, T1, hp1⟩ : ∃ e1 D1 T1, pastF x.ins D T' i (D.getD i 0) = (e1, D1, T1) := ⟨_, _, _, rfl⟩
  have hst := hrd.step hz hxc (e := e1) (D' := D1) (T' := T1) (by rw [Int.toNat_natCast]; exact hp1)
  have hdb := hrd.wst.bnd i _ (some_gD (by omega))
  rw [List.length_append, List.length_singleton] at hbd ⊢
  have el : ((T'.length + 1 : Nat) : Int) - 1 = (T'.length : Int) := by omega
  have eg : (T' ++ [(i : Int)]).getD T'.length 0 = (i : Int) := by simp
  have hgl : T'.length < (T' ++ [(i : Int)]).length := by simp
  (repeat' (first|refine zza ?_|refine zc9 ?_|refine zzb fun w hw => ?_|refine zzh fun _ => ?_|refine zzi fun _ _ => ?_|refine zv1 ?_|refine zv2 ?_|refine zzj (fun _ => ?_) fun _ => ?_))
  rw [el]
  (repeat' (first|refine zza ?_|refine zc9 ?_|refine zzb fun w hw => ?_|refine zzh fun _ => ?_|refine zzi fun _ _ => ?_|refine zv1 ?_|refine zv2 ?_|refine zzj (fun _ => ?_) fun _ => ?_))
  rw [eg]
  (repeat' (first|refine zza ?_|refine zc9 ?_|refine zzb fun w hw => ?_|refine zzh fun _ => ?_|refine zzi fun _ _ => ?_|refine zv1 ?_|refine zv2 ?_|refine zzj (fun _ => ?_) fun _ => ?_))
  rw [el]
  apply WB_op rfl rfl (y_sliceHO (h := T'.length) rfl rfl zpk (by omega))
  (repeat' (first|refine zza ?_|refine zc9 ?_|refine zzb fun w hw => ?_|refine zzh fun _ => ?_|refine zzi fun _ _ => ?_|refine zv1 ?_|refine zv2 ?_|refine zzj (fun _ => ?_) fun _ => ?_))
  rw [List.map_append]
  refine WL_ent (m' := ro w [] w.cell? :: [blk bw 75 #[.slice p code.length c, .slice (some ⟨bs, 0, none⟩) code.length code.length, .slice tp T'.length tc], sl 3 1 (some ⟨bs, 0, none⟩) code.length code.length (D.map (Value.int .i64)), sl 3 1 tp T'.length tc (T'.map (Value.int .i64))]) (Ent.cons zpk (Ent.consK (k := Ent.cons zpk (Ent.pop (n := T'.length) (k := 1) (ys := [.int .i64 (i : Int)]) zpk (by simp) Ent.nil)) zpk)) ?_
  refine WL_callUX (m1 := [blk bw 75 #[.slice p code.length c, .slice (some ⟨bs, 0, none⟩) code.length code.length, .slice tp T'.length tc], sl 3 1 (some ⟨bs, 0, none⟩) code.length code.length (D.map (Value.int .i64)), sl 3 1 tp T'.length tc (T'.map (Value.int .i64))]) (Ent.cons zpk (Ent.cons zpk (Ent.cons zpk (Ent.cons zpk Ent.refl)))) rfl rfl rfl (fun W fp hO hS => past_to hp1 rfl bw p c (some ⟨bs, 0, none⟩) code.length tp tc code _ hR W fp hO hS rfl hDl rfl hx hfx (fun h => (htox h).1) (by omega) ⟨j2, by omega⟩) ?_
  rintro ⟨tp1, tc1⟩ _
  unfold wlkN
  dsimp only
  rcases hst with ⟨rfl, hr2, hms⟩ | ⟨rfl, hB⟩
  · rw [errV_zero]
    rw [List.length_append, List.length_singleton] at hms
    (repeat' (first|refine zza ?_|refine zc9 ?_|refine zzb fun w hw => ?_|refine zzh fun _ => ?_|refine zzi fun _ _ => ?_|refine zv1 ?_|refine zv2 ?_|refine zzj (fun _ => ?_) fun _ => ?_))
    exact EX_loop' (D1, T1, tp1, tc1) ⟨zcov, zent, by dsimp only; omega, hr2, by dsimp only; rw [hr2.wst.len, hcl], by dsimp only; omega⟩
  · rw [errV_ne (by decide)]
    (repeat' (first|refine zza ?_|refine zc9 ?_|refine zzb fun w hw => ?_|refine zzh fun _ => ?_|refine zzi fun _ _ => ?_|refine zv1 ?_|refine zv2 ?_|refine zzj (fun _ => ?_) fun _ => ?_))
    exact DepthsPost.bad (DepthsA.err hno hz hB) hw _ rfl
end Go.Proofs.YtdmapiaejcnibaaDoor
