/-
  The package radix: radix.Digits. The package prim: a number of digits.
-/
import Derived.Test.YtadlpfbjnpbnoaaGreatDoorZGo
import Derived.Test.YtadlpfbjnpbnoaaGreatDoorZCopied
import Derived.Test.YtadlpfbjnpbnoaaGreatDoorZCutT
import Derived.Test.YtadlpfbjnpbnoaaGreatDoorZRadix
import Derived.Test.YtadlpfbjnpbnoaaGreatDoorZKnown
namespace Go.Proofs.YtadlpfbjnpbnoaaGreatDoor
open Go.RowKit
theorem digN_I {bs : List Int} {n : Int} (hb : ∀ x ∈ bs, I64 x) (hn : I64 n) : ∀ i, I64 (digN bs n i)
  | 0 => hn
  | i + 1 => by
    rw [digN]
    split
    · exact zero_I
    · exact two_I (digN_I hb hn i) (getD_I hb _)
theorem digA_I {bs : List Int} {n : Int} (hb : ∀ x ∈ bs, I64 x) (hn : I64 n) (k : Nat) : I64 (digA bs n k) := by
  unfold digA
  split
  · exact digN_I hb hn _
  · exact two_I (getD_I hb _) (digN_I hb hn _)
theorem digitsF_I {bs : List Int} {n : Int} (hb : ∀ x ∈ bs, I64 x) (hn : I64 n) : ∀ x ∈ digitsF bs n, I64 x := fun x hx => by
  obtain ⟨i, _, rfl⟩ := List.mem_map.1 hx
  exact digA_I hb hn _
set_option maxHeartbeats 16000000 in
set_option maxRecDepth 100000 in
theorem radix_Digits (bs : SlV Int) (n : Int) (G : Rd) (w : World) (hS : Rd.le G w.cell?) (hb : Row encI 1 G bs.p bs.c bs.xs) (h4 : bs.xs.length ≤ 4096) :
    Calls Tryz.prog 108 #[.slice bs.p bs.xs.length bs.c, .int .i64 n] w fun e w' => ∃ b : Nat, True ∧ e = .returned (.tuple #[.slice (some ⟨b, 0, none⟩) bs.xs.length bs.xs.length, .nilIface]) ∧ Holds w [] [atB b bs.xs.length (digitsF bs.xs n)] w' := by
  refine enterR (args := [_, _]) (m := []) (F := []) hS.sub rfl Tryz.func108 rfl Tryz.ntmps108 (by simp) ?_
  clear hS
  ((repeat' (first|refine zza ?_|refine zc9 ?_|refine zzb fun w hw => ?_|refine zzh fun _ => ?_|refine zzi fun _ _ => ?_|refine zu1 ?_|refine zu2 ?_|refine zu3 ?_|refine zu4 fun _ => ?_|refine zzj (fun _ => ?_) fun _ => ?_)); (repeat' (refine CW_seq ?_; (repeat' (first|refine zza ?_|refine zc9 ?_|refine zzb fun w hw => ?_|refine zzh fun _ => ?_|refine zzi fun _ _ => ?_|refine zu1 ?_|refine zu2 ?_|refine zu3 ?_|refine zu4 fun _ => ?_|refine zzj (fun _ => ?_) fun _ => ?_)))))
  rename_i b6
  refine CW_loopK [(0,_),(6,_)] zcov (fun j : Nat => [(7, .int .i64 ((j : Int) - 1)), (1, .int .i64 (digN bs.xs n (bs.xs.length - j)))]) (fun j => [atB b6 bs.xs.length (fromK bs.xs.length (digA bs.xs n) j), ro w [] G]) (fun j => j ≤ bs.xs.length) (fun j => j) bs.xs.length (Nat.le_refl _) (Cov.cons rfl rfl (Cov.cons (by rw [Nat.sub_self]; rfl) rfl Cov.nil)) (by
    show Ent _ [atB b6 bs.xs.length (fromK bs.xs.length _ bs.xs.length), ro w [] G]
    rw [fromK_end]
    exact zent) ?_
  rintro j hj
  cases j with
  | zero =>
    rw [fromK_all]
    ((repeat' (first|refine zza ?_|refine zc9 ?_|refine zzb fun w hw => ?_|refine zzh fun _ => ?_|refine zzi fun _ _ => ?_|refine zu1 ?_|refine zu2 ?_|refine zu3 ?_|refine zu4 fun _ => ?_|refine zzj (fun _ => ?_) fun _ => ?_)); (repeat' (refine CW_seq ?_; (repeat' (first|refine zza ?_|refine zc9 ?_|refine zzb fun w hw => ?_|refine zzh fun _ => ?_|refine zzi fun _ _ => ?_|refine zu1 ?_|refine zu2 ?_|refine zu3 ?_|refine zu4 fun _ => ?_|refine zzj (fun _ => ?_) fun _ => ?_)))))
    exact ⟨b6, trivial, rfl, hw.ent (Ent.cons zpk Ent.nil)⟩
  | succ j =>
    have e : ((j + 1 : Nat) : Int) - 1 = (j : Int) := by omega
    have hlt : j < bs.xs.length := by omega
    have eN : bs.xs.length - j = (bs.xs.length - (j + 1)) + 1 := by omega
    have eI : bs.xs.length - 1 - (bs.xs.length - (j + 1)) = j := by omega
    have eJ : bs.xs.length - 1 - j = bs.xs.length - (j + 1) := by omega
    have hdN : digN bs.xs n (bs.xs.length - j) = if bs.xs.getD j 0 = 0 then 0 else (twoF 4 (digN bs.xs n (bs.xs.length - (j + 1))) (bs.xs.getD j 0)).1 := by
      rw [eN, digN, eI]
    have hdA : digA bs.xs n j = if bs.xs.getD j 0 = 0 then digN bs.xs n (bs.xs.length - (j + 1)) else (twoF 5 (bs.xs.getD j 0) (digN bs.xs n (bs.xs.length - (j + 1)))).1 := by
      unfold digA
      rw [eJ]
    have eS := fromK_set bs.xs.length (digA bs.xs n) j hlt
    have hFl := fromK_len bs.xs.length (digA bs.xs n) (j + 1)
    rw [e]
    generalize digN bs.xs n (bs.xs.length - (j + 1)) = D at *
    generalize hFF : fromK bs.xs.length (digA bs.xs n) (j + 1) = S at *
    by_cases hz : bs.xs.getD j 0 = 0
    · rw [if_pos hz] at hdN hdA
      ((repeat' (first|refine zza ?_|refine zc9 ?_|refine zzb fun w hw => ?_|refine zzh fun _ => ?_|refine zzi fun _ _ => ?_|refine zu1 ?_|refine zu2 ?_|refine zu3 ?_|refine zu4 fun _ => ?_|refine zv1 ?_|refine zv2 ?_|refine zzj (fun _ => ?_) fun _ => ?_)); (repeat' (refine CW_seq ?_; (repeat' (first|refine zza ?_|refine zc9 ?_|refine zzb fun w hw => ?_|refine zzh fun _ => ?_|refine zzi fun _ _ => ?_|refine zu1 ?_|refine zu2 ?_|refine zu3 ?_|refine zu4 fun _ => ?_|refine zv1 ?_|refine zv2 ?_|refine zzj (fun _ => ?_) fun _ => ?_)))))
      rw [map_set]
      refine EX_loop' j ⟨Cov.cons rfl rfl (Cov.cons (by rw [hdN]; rfl) rfl zcov), ?_, Nat.lt_succ_self j, by omega⟩
      show Ent _ [atB b6 bs.xs.length (fromK bs.xs.length (digA bs.xs n) j), ro w [] G]
      rw [← eS, hdA]
      exact zent
    · rw [if_neg hz] at hdN hdA
      ((repeat' (first|refine zza ?_|refine zc9 ?_|refine zzb fun w hw => ?_|refine zzh fun _ => ?_|refine zzi fun _ _ => ?_|refine zu1 ?_|refine zu2 ?_|refine zu3 ?_|refine zu4 fun _ => ?_|refine zv1 ?_|refine zv2 ?_|refine zzj (fun _ => ?_) fun _ => ?_)); (repeat' (refine CW_seq ?_; (repeat' (first|refine zza ?_|refine zc9 ?_|refine zzb fun w hw => ?_|refine zzh fun _ => ?_|refine zzi fun _ _ => ?_|refine zu1 ?_|refine zu2 ?_|refine zu3 ?_|refine zu4 fun _ => ?_|refine zv1 ?_|refine zv2 ?_|refine zzj (fun _ => ?_) fun _ => ?_)))))
      refine WL_callV rfl rfl rfl (fun W hW => cell_Two 5 (bs.xs.getD j 0) D W) ?_
      ((repeat' (first|refine zza ?_|refine zc9 ?_|refine zzb fun w hw => ?_|refine zzh fun _ => ?_|refine zzi fun _ _ => ?_|refine zu1 ?_|refine zu2 ?_|refine zu3 ?_|refine zu4 fun _ => ?_|refine zv1 ?_|refine zv2 ?_|refine zzj (fun _ => ?_) fun _ => ?_)); (repeat' (refine CW_seq ?_; (repeat' (first|refine zza ?_|refine zc9 ?_|refine zzb fun w hw => ?_|refine zzh fun _ => ?_|refine zzi fun _ _ => ?_|refine zu1 ?_|refine zu2 ?_|refine zu3 ?_|refine zu4 fun _ => ?_|refine zv1 ?_|refine zv2 ?_|refine zzj (fun _ => ?_) fun _ => ?_)))))
      refine WL_callV rfl rfl rfl (fun W hW => cell_Two 4 D (bs.xs.getD j 0) W) ?_
      ((repeat' (first|refine zza ?_|refine zc9 ?_|refine zzb fun w hw => ?_|refine zzh fun _ => ?_|refine zzi fun _ _ => ?_|refine zu1 ?_|refine zu2 ?_|refine zu3 ?_|refine zu4 fun _ => ?_|refine zv1 ?_|refine zv2 ?_|refine zzj (fun _ => ?_) fun _ => ?_)); (repeat' (refine CW_seq ?_; (repeat' (first|refine zza ?_|refine zc9 ?_|refine zzb fun w hw => ?_|refine zzh fun _ => ?_|refine zzi fun _ _ => ?_|refine zu1 ?_|refine zu2 ?_|refine zu3 ?_|refine zu4 fun _ => ?_|refine zv1 ?_|refine zv2 ?_|refine zzj (fun _ => ?_) fun _ => ?_)))))
      refine EX_loop' j ⟨Cov.cons rfl rfl (Cov.cons (by rw [hdN]; rfl) rfl zcov), ?_, Nat.lt_succ_self j, by omega⟩
      show Ent _ [sl 3 1 (some ⟨b6, 0, none⟩) bs.xs.length bs.xs.length ((fromK bs.xs.length (digA bs.xs n) j).map (Value.int .i64)), ro w [] G]
      rw [← eS, hdA, ← map_set]
      exact zent
/-! ## prim.valued -/
theorem upTo_const (n : Nat) (v : Int) : upTo n (fun _ => 0) (fun _ => v) n = List.replicate n v := by
  refine List.ext_getElem (by rw [upTo_len, List.length_replicate]) fun i h1 h2 => ?_
  rw [upTo_get, List.getElem_replicate, if_pos (by rw [upTo_len] at h1; exact h1)]
def baseF (base : List Int) (single : Bool) (b : Arr) : List Int := if single = true then List.replicate b.data.length (base.getD 0 0) else base
def valuedF (base : List Int) (single : Bool) (b : Arr) : Int × Arr :=
  if numsE b ≠ 0 then (numsE b, zeroA) else if (radixF (baseF base single b) b.data).2 ≠ 0 then ((radixF (baseF base single b) b.data).2, zeroA) else (0, ⟨false, [], [(radixF (baseF base single b) b.data).1]⟩)
theorem valL_I (bs ds : List Int) : ∀ n, I64 (valL bs ds n)
  | 0 => zero_I
  | _ + 1 => w64_I _
theorem radixF_I (bs ds : List Int) : I64 (radixF bs ds).1 := by
  unfold radixF
  split
  · exact zero_I
  · split
    · exact zero_I
    · exact valL_I _ _ _
/-- what is told of the digits' number -/
theorem ResT.num {w w' : World} {G : Rd} {v : Int} {b : Nat} {e2 : TypeId} {r : List HP} (hv : I64 v) (hh : Holds w [] (ro w [] G :: blk b e2 #[.int .i64 v] :: r) w') :
    ResT (0, ⟨false, [], [v]⟩) G w (.returned (.tuple #[.agg #[.bool false, .slice none 0 0, .slice (some ⟨b, 0, none⟩) 1 1], .nilIface])) w' :=
  ResT.own (ch := false) (q := none) (c := 0) (p := some ⟨b, 0, none⟩) (k := 1) (ss := []) (ds := [v]) (e1 := e2) (e2 := e2) (r := []) (hh.ent (Ent.cons .here (Ent.nilown (Ent.blkSlN (n := 1) (sz := 1) (xs := [v].map (Value.int .i64)) .here rfl rfl (by decide) Ent.nil)))) rfl rfl rfl (by simp) (by simpa using hv)
theorem radix_ValueN {p q : Option Addr} {c k j : Nat} {bs ds : List Int} (e : bs.length = j) (G : Rd) (w : World) (hS : Rd.le G w.cell?) (hb : Row encI 1 G p c bs) (hd : Row encI 1 G q k ds) (hl : bs.length ≤ 4503599627370496) :
    Calls Tryz.prog 155 #[.slice p j c, .slice q ds.length k] w fun e w' => e = .returned (twoV (radixF bs ds)) ∧ Below w.heap.size w w' := by
  subst e
  exact radix_Value p q c k bs ds G w hS hb hd hl
set_option maxHeartbeats 16000000 in
set_option maxRecDepth 100000 in
theorem prim_valued (n : SlV Int) (single : Bool) (b : ArrM) (G : Rd) (w : World) (hS : Rd.le G w.cell?) (hb : ArrG G b) (h0 : b.arr.bad = 0) (hn : Row encI 1 G n.p n.c n.xs) (h4 : n.xs.length ≤ 4096) (h1 : single = true → 0 < n.xs.length) :
    Calls Tryz.prog 107 #[.slice n.p n.xs.length n.c, .bool single, arrV b] w (ResT (valuedF n.xs single b.arr) G w) := by
  refine enterR (args := [_, _, _]) (m := []) (F := []) hS.sub rfl Tryz.func107 rfl Tryz.ntmps107 (by simp) ?_
  clear hS
  have h7 : b.data.xs.length ≤ 4096 := (Arr.good h0).cells
  by_cases hE : numsE b.arr = 0
  · have hF : valuedF n.xs single b.arr = if (radixF (baseF n.xs single b.arr) b.data.xs).2 ≠ 0 then ((radixF (baseF n.xs single b.arr) b.data.xs).2, zeroA) else (0, ⟨false, [], [(radixF (baseF n.xs single b.arr) b.data.xs).1]⟩) := if_neg (fun h => h hE)
    rw [hF]
    clear hF
    (repeat' (first|refine zza ?_|refine zc9 ?_|refine zzb fun w hw => ?_|refine zzh fun _ => ?_|refine zzi fun _ _ => ?_|refine zzj (fun _ => ?_) fun _ => ?_))
    rename_i b5 b6
    refine WL_callV rfl rfl rfl (fun W _ => prim_numbers b W hE) ?_
    cases single with
    | true =>
      have hp := h1 rfl
      have hbF : baseF n.xs true b.arr = List.replicate b.data.xs.length (n.xs.getD 0 0) := if_pos rfl
      rw [hbF]
      clear hbF h1
      have hs := hn.some_lt hp
      have hp0 : 0 < n.xs.length := hp
      ((repeat' (first|refine zza ?_|refine zc9 ?_|refine zzb fun w hw => ?_|refine zzh fun _ => ?_|refine zzi fun _ _ => ?_|refine zu1 ?_|refine zu2 ?_|refine zu3 ?_|refine zu4 fun _ => ?_|refine zzj (fun _ => ?_) fun _ => ?_)); (repeat' (refine CW_seq ?_; (repeat' (first|refine zza ?_|refine zc9 ?_|refine zzb fun w hw => ?_|refine zzh fun _ => ?_|refine zzi fun _ _ => ?_|refine zu1 ?_|refine zu2 ?_|refine zu3 ?_|refine zu4 fun _ => ?_|refine zzj (fun _ => ?_) fun _ => ?_)))))
      rename_i bb
      refine CW_loopK [(6,_),(7,_),(8,_),(10,_),(0,_),(29,_),(30,_)] zcov (fun i : Nat => [(31, .int .i64 (i : Int))]) (fun i => [ro w [] G, atB bb b.data.xs.length (upTo b.data.xs.length (fun _ => 0) (fun _ => n.xs.getD 0 0) i), zB b6, boxB b5 b]) (fun i => i ≤ b.data.xs.length) (fun i => b.data.xs.length - i) 0 (Nat.zero_le _) zcov (by
        show Ent _ [ro w [] G, atB bb b.data.xs.length (upTo b.data.xs.length (fun _ => 0) _ 0), zB b6, boxB b5 b]
        rw [upTo_zero]
        exact zent) ?_
      rintro i hi
      by_cases hlt : i < b.data.xs.length
      · have eS := upTo_set b.data.xs.length (fun _ => 0) (fun _ => n.xs.getD 0 0) i hlt
        ((repeat' (first|refine zza ?_|refine zc9 ?_|refine zzb fun w hw => ?_|refine zzh fun _ => ?_|refine zzi fun _ _ => ?_|refine zu1 ?_|refine zu2 ?_|refine zu3 ?_|refine zu4 fun _ => ?_|refine zv1 ?_|refine zv2 ?_|refine zzj (fun _ => ?_) fun _ => ?_)); (repeat' (refine CW_seq ?_; (repeat' (first|refine zza ?_|refine zc9 ?_|refine zzb fun w hw => ?_|refine zzh fun _ => ?_|refine zzi fun _ _ => ?_|refine zu1 ?_|refine zu2 ?_|refine zu3 ?_|refine zu4 fun _ => ?_|refine zv1 ?_|refine zv2 ?_|refine zzj (fun _ => ?_) fun _ => ?_)))))
        rw [map_set]
        refine EX_loop' (i + 1) ⟨zcov, ?_, by omega, by omega⟩
        show Ent _ [ro w [] G, atB bb b.data.xs.length (upTo b.data.xs.length (fun _ => 0) (fun _ => n.xs.getD 0 0) (i + 1)), zB b6, boxB b5 b]
        rw [← eS]
        exact zent
      · obtain rfl : i = b.data.xs.length := by omega
        rw [upTo_const]
        ((repeat' (first|refine zza ?_|refine zc9 ?_|refine zzb fun w hw => ?_|refine zzh fun _ => ?_|refine zzi fun _ _ => ?_|refine zu1 ?_|refine zu2 ?_|refine zu3 ?_|refine zu4 fun _ => ?_|refine zv1 ?_|refine zv2 ?_|refine zzj (fun _ => ?_) fun _ => ?_)); (repeat' (refine CW_seq ?_; (repeat' (first|refine zza ?_|refine zc9 ?_|refine zzb fun w hw => ?_|refine zzh fun _ => ?_|refine zzi fun _ _ => ?_|refine zu1 ?_|refine zu2 ?_|refine zu3 ?_|refine zu4 fun _ => ?_|refine zv1 ?_|refine zv2 ?_|refine zzj (fun _ => ?_) fun _ => ?_)))))
        have hRl : (List.replicate b.data.xs.length (n.xs.getD 0 0)).length = b.data.xs.length := List.length_replicate
        refine WL_row (enc := encI) (sz := 1) (e := 3) (p := some ⟨bb, 0, none⟩) (n := b.data.xs.length) (c := b.data.xs.length) (xs := List.replicate b.data.xs.length (n.xs.getD 0 0)) (fun _ => rfl) (by decide) rfl (by rw [flatA]; exact Ent.refl) fun G1 g1 r1 => ?_
        have hV := fun W (h : Rd.le G1 W.cell?) => radix_ValueN hRl G1 W h r1 (hb.mono g1.1).data (by omega)
        have hvI := radixF_I (List.replicate b.data.xs.length (n.xs.getD 0 0)) b.data.xs
        obtain ⟨v, e, hve⟩ : ∃ v e, radixF (List.replicate b.data.xs.length (n.xs.getD 0 0)) b.data.xs = (v, e) := ⟨_, _, rfl⟩
        rw [hve] at hV hvI ⊢
        dsimp only at hvI ⊢
        by_cases he : e = 0
        · subst he
          rw [show twoV (v, 0) = .tuple #[.int .i64 v, .nilIface] by unfold twoV; rw [errV_zero]] at hV
          rw [if_neg (by simp)]
          refine WL_callV rfl rfl rfl (fun W hW => hV W (hW.le zpk)) ?_
          clear hV
          ((repeat' (first|refine zza ?_|refine zc9 ?_|refine zzb fun w hw => ?_|refine zzh fun _ => ?_|refine zzi fun _ _ => ?_|refine zu1 ?_|refine zu2 ?_|refine zu3 ?_|refine zu4 fun _ => ?_|refine zzj (fun _ => ?_) fun _ => ?_)); (repeat' (refine CW_seq ?_; (repeat' (first|refine zza ?_|refine zc9 ?_|refine zzb fun w hw => ?_|refine zzh fun _ => ?_|refine zzi fun _ _ => ?_|refine zu1 ?_|refine zu2 ?_|refine zu3 ?_|refine zu4 fun _ => ?_|refine zzj (fun _ => ?_) fun _ => ?_)))))
          refine EX_retK2 (b := b6) rfl rfl rfl rfl zpk rfl fun w' hw => ?_
          exact ResT.up g1 (ResT.num hvI (hw.ent (Ent.cons zpk (Ent.cons zpk Ent.nil))))
        · rw [show twoV (v, e) = .tuple #[.int .i64 v, .iface 28 (.int .i64 e)] by unfold twoV; rw [errV_ne he]] at hV
          rw [if_pos he]
          refine WL_callV rfl rfl rfl (fun W hW => hV W (hW.le zpk)) ?_
          clear hV
          ((repeat' (first|refine zza ?_|refine zc9 ?_|refine zzb fun w hw => ?_|refine zzh fun _ => ?_|refine zzi fun _ _ => ?_|refine zu1 ?_|refine zu2 ?_|refine zu3 ?_|refine zu4 fun _ => ?_|refine zzj (fun _ => ?_) fun _ => ?_)); (repeat' (refine CW_seq ?_; (repeat' (first|refine zza ?_|refine zc9 ?_|refine zzb fun w hw => ?_|refine zzh fun _ => ?_|refine zzi fun _ _ => ?_|refine zu1 ?_|refine zu2 ?_|refine zu3 ?_|refine zu4 fun _ => ?_|refine zzj (fun _ => ?_) fun _ => ?_)))))
          refine EX_retK2 (b := b6) rfl rfl rfl rfl zpk rfl fun w' hw => ?_
          exact ResT.up g1 (ResT.err he (hw.ent (Ent.cons zpk Ent.nil)))
    | false =>
      have hbF : baseF n.xs false b.arr = n.xs := if_neg (by simp)
      rw [hbF]
      clear hbF h1
      ((repeat' (first|refine zza ?_|refine zc9 ?_|refine zzb fun w hw => ?_|refine zzh fun _ => ?_|refine zzi fun _ _ => ?_|refine zu1 ?_|refine zu2 ?_|refine zu3 ?_|refine zu4 fun _ => ?_|refine zzj (fun _ => ?_) fun _ => ?_)); (repeat' (refine CW_seq ?_; (repeat' (first|refine zza ?_|refine zc9 ?_|refine zzb fun w hw => ?_|refine zzh fun _ => ?_|refine zzi fun _ _ => ?_|refine zu1 ?_|refine zu2 ?_|refine zu3 ?_|refine zu4 fun _ => ?_|refine zzj (fun _ => ?_) fun _ => ?_)))))
      have hV := fun W (h : Rd.le G W.cell?) => radix_Value n.p b.data.p n.c b.data.c n.xs b.data.xs G W h hn hb.data (by omega)
      have hvI := radixF_I n.xs b.data.xs
      obtain ⟨v, e, hve⟩ : ∃ v e, radixF n.xs b.data.xs = (v, e) := ⟨_, _, rfl⟩
      rw [hve] at hV hvI ⊢
      dsimp only at hvI ⊢
      by_cases he : e = 0
      · subst he
        rw [show twoV (v, 0) = .tuple #[.int .i64 v, .nilIface] by unfold twoV; rw [errV_zero]] at hV
        rw [if_neg (by simp)]
        refine WL_callV rfl rfl rfl (fun W hW => hV W (hW.le zpk)) ?_
        clear hV
        ((repeat' (first|refine zza ?_|refine zc9 ?_|refine zzb fun w hw => ?_|refine zzh fun _ => ?_|refine zzi fun _ _ => ?_|refine zu1 ?_|refine zu2 ?_|refine zu3 ?_|refine zu4 fun _ => ?_|refine zzj (fun _ => ?_) fun _ => ?_)); (repeat' (refine CW_seq ?_; (repeat' (first|refine zza ?_|refine zc9 ?_|refine zzb fun w hw => ?_|refine zzh fun _ => ?_|refine zzi fun _ _ => ?_|refine zu1 ?_|refine zu2 ?_|refine zu3 ?_|refine zu4 fun _ => ?_|refine zzj (fun _ => ?_) fun _ => ?_)))))
        refine EX_retK2 (b := b6) rfl rfl rfl rfl zpk rfl fun w' hw => ?_
        exact ResT.num hvI (hw.ent (Ent.cons zpk (Ent.cons zpk Ent.nil)))
      · rw [show twoV (v, e) = .tuple #[.int .i64 v, .iface 28 (.int .i64 e)] by unfold twoV; rw [errV_ne he]] at hV
        rw [if_pos he]
        refine WL_callV rfl rfl rfl (fun W hW => hV W (hW.le zpk)) ?_
        clear hV
        ((repeat' (first|refine zza ?_|refine zc9 ?_|refine zzb fun w hw => ?_|refine zzh fun _ => ?_|refine zzi fun _ _ => ?_|refine zu1 ?_|refine zu2 ?_|refine zu3 ?_|refine zu4 fun _ => ?_|refine zzj (fun _ => ?_) fun _ => ?_)); (repeat' (refine CW_seq ?_; (repeat' (first|refine zza ?_|refine zc9 ?_|refine zzb fun w hw => ?_|refine zzh fun _ => ?_|refine zzi fun _ _ => ?_|refine zu1 ?_|refine zu2 ?_|refine zu3 ?_|refine zu4 fun _ => ?_|refine zzj (fun _ => ?_) fun _ => ?_)))))
        refine EX_retK2 (b := b6) rfl rfl rfl rfl zpk rfl fun w' hw => ?_
        exact ResT.err he (hw.ent (Ent.cons zpk Ent.nil))
  · have hF : valuedF n.xs single b.arr = (numsE b.arr, zeroA) := if_pos hE
    rw [hF]
    clear hF
    ((repeat' (first|refine zza ?_|refine zc9 ?_|refine zzb fun w hw => ?_|refine zzh fun _ => ?_|refine zzi fun _ _ => ?_|refine zu1 ?_|refine zu2 ?_|refine zu3 ?_|refine zu4 fun _ => ?_|refine zzj (fun _ => ?_) fun _ => ?_)); (repeat' (refine CW_seq ?_; (repeat' (first|refine zza ?_|refine zc9 ?_|refine zzb fun w hw => ?_|refine zzh fun _ => ?_|refine zzi fun _ _ => ?_|refine zu1 ?_|refine zu2 ?_|refine zu3 ?_|refine zu4 fun _ => ?_|refine zzj (fun _ => ?_) fun _ => ?_)))))
    rename_i b5 b6
    refine WL_callV rfl rfl rfl (fun W _ => prim_numbersE b W hE) ?_
    ((repeat' (first|refine zza ?_|refine zc9 ?_|refine zzb fun w hw => ?_|refine zzh fun _ => ?_|refine zzi fun _ _ => ?_|refine zu1 ?_|refine zu2 ?_|refine zu3 ?_|refine zu4 fun _ => ?_|refine zzj (fun _ => ?_) fun _ => ?_)); (repeat' (refine CW_seq ?_; (repeat' (first|refine zza ?_|refine zc9 ?_|refine zzb fun w hw => ?_|refine zzh fun _ => ?_|refine zzi fun _ _ => ?_|refine zu1 ?_|refine zu2 ?_|refine zu3 ?_|refine zu4 fun _ => ?_|refine zzj (fun _ => ?_) fun _ => ?_)))))
    refine EX_retK2 (b := b6) rfl rfl rfl rfl zpk rfl fun w' hw => ?_
    exact ResT.err hE (hw.ent (Ent.cons zpk Ent.nil))
end Go.Proofs.YtadlpfbjnpbnoaaGreatDoor
