/-
  The package cut: one round of cut.Join's last loop.
  The package cut: one round of cut.Spread's inner loop.
-/
import Derived.Test.YtadlpfbjnpbnoaaGreatDoorZGo
import Derived.Test.YtadlpfbjnpbnoaaGreatDoorZKeepW
import Derived.Test.YtadlpfbjnpbnoaaGreatDoorZRadix
namespace Go.Proofs.YtadlpfbjnpbnoaaGreatDoor
open Go.RowKit
noncomputable abbrev jcode : Code := (Tryz.f110.body).getD .skip
set_option maxHeartbeats 16000000 in
set_option maxRecDepth 100000 in
theorem join_round (w : World) (G1 : Rd) (a b : ArrM) (ha : ArrG G1 a) (hb : ArrG G1 b) (x1p : Option Addr) (x1c r A k : Nat) (S : Value) (one two : Nat) (b4 b5 b6 b15 : Nat) (D : Nat → List Int) (t T : Nat) (q : Option Addr) (c : Nat) (ht : t < T)
    (h1 : t * one + one ≤ a.data.xs.length) (h2 : t * two + two ≤ b.data.xs.length) (hla : a.data.xs.length ≤ 4096) (hlb : b.data.xs.length ≤ 4096)
    (hD : D (t + 1) = D t ++ (piece a.data.xs (t * one) one ++ piece b.data.xs (t * two) two))
    (hDl : (D t).length < A) (hA : A ≤ 4096) (Q : Exit → Act → World → Prop) :
    CW Tryz.prog ⟨169, [], w, []⟩ (QLoop ⟨169, [], w, []⟩ (fun z : Nat × Option Addr × Nat => [(19, .int .i64 ((z.1 * one : Nat) : Int)), (20, .int .i64 ((z.1 * two : Nat) : Int))] ++ [(0, .int .i64 (k : Int)), (4, .pointer (some ⟨b4, 0, none⟩)), (5, .pointer (some ⟨b5, 0, none⟩)), (6, .pointer (some ⟨b6, 0, none⟩)), (11, S), (13, .int .i64 (A : Int)), (15, .pointer (some ⟨b15, 0, none⟩)), (16, .int .i64 (one : Int)), (17, .int .i64 (two : Int))])
      (fun z => [ro w [] G1, blk b15 27 #[.bool a.char, .slice x1p r x1c, .slice z.2.1 (D z.1).length z.2.2], own1 z.2 (D z.1), zB b6, boxB b4 a, boxB b5 b]) (fun z => z.1 ≤ T) (fun z => T - z.1) (t, q, c) Q)
      (cP [1, 1, 1, 1, 1, 1, 1, 1, 1, 1, 1, 1, 1, 0, 1, 0, 0] jcode)
      ([(19, .int .i64 ((t * one : Nat) : Int)), (20, .int .i64 ((t * two : Nat) : Int))] ++ [(0, .int .i64 (k : Int)), (4, .pointer (some ⟨b4, 0, none⟩)), (5, .pointer (some ⟨b5, 0, none⟩)), (6, .pointer (some ⟨b6, 0, none⟩)), (11, S), (13, .int .i64 (A : Int)), (15, .pointer (some ⟨b15, 0, none⟩)), (16, .int .i64 (one : Int)), (17, .int .i64 (two : Int))])
      [ro w [] G1, blk b15 27 #[.bool a.char, .slice x1p r x1c, .slice q (D t).length c], own1 (q, c) (D t), zB b6, boxB b4 a, boxB b5 b] := by
  conv =>
    pattern cP _ _
    whnf
  have hR : Row encI 1 G1 (subP a.data.p a.data.c 1 (t * one)) (a.data.c - t * one) (piece a.data.xs (t * one) one) := ha.data.sub _ _ h1
  have hR2 : Row encI 1 G1 (subP b.data.p b.data.c 1 (t * two)) (b.data.c - t * two) (piece b.data.xs (t * two) two) := hb.data.sub _ _ h2
  have hPl := piece_len h1
  have hPl2 := piece_len h2
  have hdc := ha.data.le
  have hdc2 := hb.data.le
  have eO : (t + 1) * one = t * one + one := Nat.succ_mul ..
  have eT : (t + 1) * two = t * two + two := Nat.succ_mul ..
  have eN : (D t).length + one = (D t ++ piece a.data.xs (t * one) one).length := by rw [List.length_append, hPl]
  have eN2 : (D t ++ piece a.data.xs (t * one) one).length + two = ((D t ++ piece a.data.xs (t * one) one) ++ piece b.data.xs (t * two) two).length := by rw [List.length_append (bs := piece b.data.xs (t * two) two), hPl2]
  rw [← List.append_assoc] at hD
  generalize piece a.data.xs (t * one) one = pa at *
  generalize piece b.data.xs (t * two) two = pb at *
  generalize hDt : D t = Dt at *
  generalize hD1 : D (t + 1) = D1 at *
  generalize hP1 : t * one = P1 at *
  generalize hP2 : t * two = P2 at *
  generalize hDa : Dt ++ pa = Da at *
  ((repeat' (first|refine zza ?_|refine zzb fun w hw => ?_|refine zzh fun _ => ?_|refine zzi fun _ _ => ?_|refine zu1 ?_|refine zu2 ?_|refine zu4 fun _ => ?_|refine zzj (fun _ => ?_) fun _ => ?_)); (repeat' (refine CW_seq ?_; (repeat' (first|refine zza ?_|refine zzb fun w hw => ?_|refine zzh fun _ => ?_|refine zzi fun _ _ => ?_|refine zu1 ?_|refine zu2 ?_|refine zu4 fun _ => ?_|refine zzj (fun _ => ?_) fun _ => ?_)))))
  refine CW_ent (m' := [own1 (q, c) Dt, zB b6, ro w [] G1, blk b15 27 #[.bool a.char, .slice x1p r x1c, .slice q Dt.length c], boxB b4 a, boxB b5 b]) zent ?_
  refine CW_perm 11 [0, 1, 2, 3, 4, 5, 6, 7, 8, 9, 10] [ro w [] G1, blk b15 27 #[.bool a.char, .slice x1p r x1c, .slice q Dt.length c], boxB b4 a, boxB b5 b] [] zcov (pm := [own1 (q, c) Dt, zB b6]) Ent.refl (by kernel_rfl) (by decide +kernel) (by kernel_rfl) ?_
  (refine WP_op rfl rfl rfl zyi ?_)
  (refine WP_op rfl rfl rfl zyi ?_)
  (refine WP_op rfl rfl rfl zyi ?_)
  (refine WP_op rfl rfl rfl zyi ?_)
  (refine WP_op rfl rfl rfl zyi ?_)
  (refine WP_op rfl rfl rfl zyi ?_)
  (refine WP_op rfl rfl rfl zyi ?_)
  (refine WP_op rfl rfl rfl zyi ?_)
  refine WP_op rfl rfl rfl (y_subR P1 one rfl rfl rfl rfl rfl (by omega)) ?_
  refine WP_appendN (pm := [zB b6]) (enc := encI) (fun _ => rfl) (by decide) one_I hR hPl rfl (by kernel_rfl) rfl rfl .here zpk Ent.refl (by omega) (by omega) rfl rfl fun q2 k2 => ?_
  rw [flatA, ← List.map_append, hDa, eN]
  (refine WP_op rfl rfl rfl zyi ?_)
  refine WP_end ?_
  ((repeat' (first|refine zza ?_|refine zzb fun w hw => ?_|refine zzh fun _ => ?_|refine zzi fun _ _ => ?_|refine zu1 ?_|refine zu2 ?_|refine zu4 fun _ => ?_|refine zzj (fun _ => ?_) fun _ => ?_)); (repeat' (refine CW_seq ?_; (repeat' (first|refine zza ?_|refine zzb fun w hw => ?_|refine zzh fun _ => ?_|refine zzi fun _ _ => ?_|refine zu1 ?_|refine zu2 ?_|refine zu4 fun _ => ?_|refine zzj (fun _ => ?_) fun _ => ?_)))))
  refine CW_ent (m' := [own1 (q2, k2) Da, zB b6, ro w [] G1, blk b15 27 #[.bool a.char, .slice x1p r x1c, .slice q2 Da.length k2], boxB b4 a, boxB b5 b]) (Ent.cons zpk (Ent.cons zpk (Ent.cons zpk (Ent.consK (k := zent) zpk)))) ?_
  refine CW_perm 11 [0, 1, 2, 3, 4, 5, 6, 7, 8, 9, 10] [ro w [] G1, blk b15 27 #[.bool a.char, .slice x1p r x1c, .slice q2 Da.length k2], boxB b4 a, boxB b5 b] [] zcov (pm := [own1 (q2, k2) Da, zB b6]) Ent.refl (by kernel_rfl) (by decide +kernel) (by kernel_rfl) ?_
  (refine WP_op rfl rfl rfl zyi ?_)
  (refine WP_op rfl rfl rfl zyi ?_)
  (refine WP_op rfl rfl rfl zyi ?_)
  (refine WP_op rfl rfl rfl zyi ?_)
  (refine WP_op rfl rfl rfl zyi ?_)
  (refine WP_op rfl rfl rfl zyi ?_)
  (refine WP_op rfl rfl rfl zyi ?_)
  (refine WP_op rfl rfl rfl zyi ?_)
  refine WP_op rfl rfl rfl (y_subR P2 two rfl rfl rfl rfl rfl (by omega)) ?_
  refine WP_appendN (pm := [zB b6]) (enc := encI) (fun _ => rfl) (by decide) one_I hR2 hPl2 rfl (by kernel_rfl) rfl rfl .here zpk Ent.refl (by omega) (by omega) rfl rfl fun q3 k3 => ?_
  rw [flatA, ← List.map_append, eN2]
  (refine WP_op rfl rfl rfl zyi ?_)
  refine WP_end ?_
  ((repeat' (first|refine zza ?_|refine zc9 ?_|refine zzb fun w hw => ?_|refine zzh fun _ => ?_|refine zzi fun _ _ => ?_|refine zu1 ?_|refine zu2 ?_|refine zu3 ?_|refine zu4 fun _ => ?_|refine zzj (fun _ => ?_) fun _ => ?_)); (repeat' (refine CW_seq ?_; (repeat' (first|refine zza ?_|refine zc9 ?_|refine zzb fun w hw => ?_|refine zzh fun _ => ?_|refine zzi fun _ _ => ?_|refine zu1 ?_|refine zu2 ?_|refine zu3 ?_|refine zu4 fun _ => ?_|refine zzj (fun _ => ?_) fun _ => ?_)))))
  refine EX_loop' (t + 1, q3, k3) ⟨Cov.cons (by show _ = some (Value.int .i64 (((t + 1) * one : Nat) : Int)); rw [eO]; rfl) rfl (Cov.cons (by show _ = some (Value.int .i64 (((t + 1) * two : Nat) : Int)); rw [eT]; rfl) rfl zcov), ?_, by show T - (t + 1) < T - t; omega, by show t + 1 ≤ T; omega⟩
  show Ent _ [ro w [] G1, blk b15 27 #[.bool a.char, .slice x1p r x1c, .slice q3 (D (t + 1)).length k3], own1 (q3, k3) (D (t + 1)), zB b6, boxB b4 a, boxB b5 b]
  rw [hD1, hD]
  exact Ent.cons zpk (Ent.consK (k := zent) zpk)
end Go.Proofs.YtadlpfbjnpbnoaaGreatDoor
namespace Go.Proofs.YtadlpfbjnpbnoaaGreatDoor
open Go.RowKit
theorem ResT.mix {w w' : World} {G : Rd} {ch : Bool} {p q : Option Addr} {c k n : Nat} {ss ds : List Int} {e2 : TypeId} {r : List HP} (hn : ss.length = n) (hR : Row encI 1 G p c ss) (hh : Holds w [] (ro w [] G :: sl e2 1 q ds.length k (ds.map (Value.int .i64)) :: r) w') (hsI : ∀ x ∈ ss, I64 x) (hdI : ∀ x ∈ ds, I64 x) :
    ResT (0, ⟨ch, ss, ds⟩) G w (.returned (.tuple #[.agg #[.bool ch, .slice p n c, .slice q ds.length k], .nilIface])) w' := by
  subst hn
  rw [← flatA] at hh
  obtain ⟨G1, g1, r1, k1⟩ := Holds.toRo (enc := encI) (sz := 1) (fun _ => rfl) (by decide) hh (fun _ _ => by simp)
  exact ⟨⟨ch, ⟨p, c, ss⟩, ⟨q, k, ds⟩⟩, G1, ⟨rfl, hR.mono g1.1, r1, hsI, hdI⟩, by rw [← errV_zero (T := 28)], g1, k1.ent (Ent.cons .here Ent.nil)⟩
set_option maxHeartbeats 16000000 in
set_option maxRecDepth 100000 in
theorem spr_round (w : World) (G1 : Rd) (sx : List Int) (sp : Option Addr) (sc : Nat) (hs : Row encI 1 G1 sp sc sx) (hsl : sx.length ≤ 4096) (a : ArrM) (ha : ArrG G1 a) (x1p : Option Addr) (x1c r A : Nat) (I : Nat) (hI4 : I ≤ 4096) (b5 b6 b13 : Nat) (p : Nat → Nat) (D : Nat → List Int) (i : Nat) (q : Option Addr) (c : Nat) (hlt : i < sx.length)
    (hp1 : sx.getD i 0 = 1 → p i + I ≤ a.data.xs.length ∧ p (i + 1) = p i + I ∧ D (i + 1) = D i ++ piece a.data.xs (p i) I)
    (hp0 : ¬ sx.getD i 0 = 1 → p (i + 1) = p i ∧ D (i + 1) = D i ++ List.replicate I (fillA a.char))
    (hDl : (D i).length ≤ 4096 * 4098) (hpl : p i ≤ 4096) (Q : Exit → Act → World → Prop) :
    CW Tryz.prog ⟨131, [], w, []⟩ (QLoop ⟨131, [], w, []⟩ (fun z : Nat × Option Addr × Nat => [(98, .int .i64 (z.1 : Int)), (17, .int .i64 ((p z.1 : Nat) : Int))] ++ [(0, .slice sp sx.length sc), (5, .pointer (some ⟨b5, 0, none⟩)), (6, .pointer (some ⟨b6, 0, none⟩)), (12, .int .i64 (A : Int)), (13, .pointer (some ⟨b13, 0, none⟩)), (14, .int .i64 (I : Int)), (96, .slice sp sx.length sc), (97, .int .i64 (sx.length : Int))])
      (fun z => [ro w [] G1, blk b13 27 #[.bool a.char, .slice x1p r x1c, .slice z.2.1 (D z.1).length z.2.2], own1 z.2 (D z.1), zB b6, boxB b5 a]) (fun z => z.1 ≤ sx.length) (fun z => sx.length - z.1) (i, q, c) Q)
      (cP [1,1,1,1,1,1,1,1,1,1,1,1,1,1,0,0,0,1,0,1,0,0] ((Tryz.f106.body).getD .skip))
      ([(98, .int .i64 (i : Int)), (17, .int .i64 ((p i : Nat) : Int))] ++ [(0, .slice sp sx.length sc), (5, .pointer (some ⟨b5, 0, none⟩)), (6, .pointer (some ⟨b6, 0, none⟩)), (12, .int .i64 (A : Int)), (13, .pointer (some ⟨b13, 0, none⟩)), (14, .int .i64 (I : Int)), (96, .slice sp sx.length sc), (97, .int .i64 (sx.length : Int))])
      [ro w [] G1, blk b13 27 #[.bool a.char, .slice x1p r x1c, .slice q (D i).length c], own1 (q, c) (D i), zB b6, boxB b5 a] := by
  conv =>
    pattern cP _ _
    whnf
  by_cases h1 : sx.getD i 0 = 1
  · obtain ⟨k1, eP, eD⟩ := hp1 h1
    clear hp1 hp0
    have hR : Row encI 1 G1 (subP a.data.p a.data.c 1 (p i)) (a.data.c - p i) (piece a.data.xs (p i) I) := ha.data.sub _ _ k1
    have hPl := piece_len k1
    have hdc := ha.data.le
    have eN : (D i).length + I = (D i ++ piece a.data.xs (p i) I).length := by rw [List.length_append, hPl]
    generalize piece a.data.xs (p i) I = pc at *
    generalize hDi : D i = Di at *
    generalize hpi : p i = P at *
    ((repeat' (first|refine zza ?_|refine zzb fun w hw => ?_|refine zzh fun _ => ?_|refine zzi fun _ _ => ?_|refine zu1 ?_|refine zu2 ?_|refine zu4 fun _ => ?_|refine zzj (fun _ => ?_) fun _ => ?_)); (repeat' (refine CW_seq ?_; (repeat' (first|refine zza ?_|refine zzb fun w hw => ?_|refine zzh fun _ => ?_|refine zzi fun _ _ => ?_|refine zu1 ?_|refine zu2 ?_|refine zu4 fun _ => ?_|refine zzj (fun _ => ?_) fun _ => ?_)))))
    refine CW_ent (m' := [own1 (q, c) Di, zB b6, ro w [] G1, blk b13 27 #[.bool a.char, .slice x1p r x1c, .slice q Di.length c], boxB b5 a]) zent ?_
    refine CW_perm 11 [0, 1, 2, 3, 4, 5, 6, 7, 8, 9, 10] [ro w [] G1, blk b13 27 #[.bool a.char, .slice x1p r x1c, .slice q Di.length c], boxB b5 a] [] zcov (pm := [own1 (q, c) Di, zB b6]) Ent.refl (by kernel_rfl) (by decide +kernel) (by kernel_rfl) ?_
    (refine WP_op rfl rfl rfl zyi ?_)
    (refine WP_op rfl rfl rfl zyi ?_)
    (refine WP_op rfl rfl rfl zyi ?_)
    (refine WP_op rfl rfl rfl zyi ?_)
    (refine WP_op rfl rfl rfl zyi ?_)
    (refine WP_op rfl rfl rfl zyi ?_)
    (refine WP_op rfl rfl rfl zyi ?_)
    (refine WP_op rfl rfl rfl zyi ?_)
    refine WP_op rfl rfl rfl (y_subR P I rfl rfl rfl rfl rfl (by omega)) ?_
    refine WP_appendN (pm := [zB b6]) (enc := encI) (fun _ => rfl) (by decide) one_I hR hPl rfl (by kernel_rfl) rfl rfl .here zpk Ent.refl (by omega) (by omega) rfl rfl fun q2 k2 => ?_
    rw [flatA, ← List.map_append, eN]
    (refine WP_op rfl rfl rfl zyi ?_)
    refine WP_end ?_
    ((repeat' (first|refine zza ?_|refine zc9 ?_|refine zzb fun w hw => ?_|refine zzh fun _ => ?_|refine zzi fun _ _ => ?_|refine zu1 ?_|refine zu2 ?_|refine zu3 ?_|refine zu4 fun _ => ?_|refine zzj (fun _ => ?_) fun _ => ?_)); (repeat' (refine CW_seq ?_; (repeat' (first|refine zza ?_|refine zc9 ?_|refine zzb fun w hw => ?_|refine zzh fun _ => ?_|refine zzi fun _ _ => ?_|refine zu1 ?_|refine zu2 ?_|refine zu3 ?_|refine zu4 fun _ => ?_|refine zzj (fun _ => ?_) fun _ => ?_)))))
    refine EX_loop' (i + 1, q2, k2) ⟨Cov.cons rfl rfl (Cov.cons (by show _ = some (Value.int .i64 ((p (i + 1) : Nat) : Int)); rw [eP]; rfl) rfl zcov), ?_, by show sx.length - (i + 1) < sx.length - i; omega, hlt⟩
    show Ent _ [ro w [] G1, blk b13 27 #[.bool a.char, .slice x1p r x1c, .slice q2 (D (i + 1)).length k2], own1 (q2, k2) (D (i + 1)), zB b6, boxB b5 a]
    rw [eD]
    exact Ent.cons zpk (Ent.consK (k := zent) zpk)
  · obtain ⟨eP, eD⟩ := hp0 h1
    clear hp1 hp0
    obtain ⟨Z, hZ⟩ : ∃ Z : Nat → List Int, ∀ j, Z j = D i ++ List.replicate j (fillA a.char) := ⟨_, fun _ => rfl⟩
    have Z0 : Z 0 = D i := by rw [hZ]; exact List.append_nil _
    have ZS : ∀ j, Z (j + 1) = Z j ++ [fillA a.char] := fun j => by rw [hZ, hZ, List.replicate_succ', ← List.append_assoc]
    have hsu2 : D (i + 1) = Z I := by rw [eD, hZ]
    have ZL : ∀ j, j ≤ I → (Z j).length ≤ 4096 * 4100 := fun j hj => by
      rw [hZ, List.length_append, List.length_replicate]
      omega
    clear hZ eD
    rw [← Z0]
    ((repeat' (first|refine zza ?_|refine zc9 ?_|refine zzb fun w hw => ?_|refine zzh fun _ => ?_|refine zzi fun _ _ => ?_|refine zu1 ?_|refine zu2 ?_|refine zu3 ?_|refine zu4 fun _ => ?_|refine zzj (fun _ => ?_) fun _ => ?_)); (repeat' (refine CW_seq ?_; (repeat' (first|refine zza ?_|refine zc9 ?_|refine zzb fun w hw => ?_|refine zzh fun _ => ?_|refine zzi fun _ _ => ?_|refine zu1 ?_|refine zu2 ?_|refine zu3 ?_|refine zu4 fun _ => ?_|refine zzj (fun _ => ?_) fun _ => ?_)))))
    refine CW_loopK [(0,_),(5,_),(6,_),(12,_),(13,_),(14,_),(17,_),(96,_),(97,_),(98,_),(118,_)] zcov (fun z : Nat × Option Addr × Nat => [(119, .int .i64 (z.1 : Int))]) (fun z => [ro w [] G1, blk b13 27 #[.bool a.char, .slice x1p r x1c, .slice z.2.1 (Z z.1).length z.2.2], own1 z.2 (Z z.1), zB b6, boxB b5 a]) (fun z => z.1 ≤ I) (fun z => I - z.1) (0, q, c) (Nat.zero_le _) zcov zent ?_
    clear Z0
    rintro ⟨j, q, c⟩ hj
    dsimp only at hj ⊢
    by_cases hjl : j < I
    · have hsu3 := ZS j
      have hDj := ZL j hj
      clear hsu2 ZS ZL
      generalize hZ1 : Z (j + 1) = D2 at *
      generalize Z j = D' at *
      ((repeat' (first|refine zza ?_|refine zzb fun w hw => ?_|refine zzh fun _ => ?_|refine zzi fun _ _ => ?_|refine zu1 ?_|refine zu2 ?_|refine zu4 fun _ => ?_|refine zzj (fun _ => ?_) fun _ => ?_)); (repeat' (refine CW_seq ?_; (repeat' (first|refine zza ?_|refine zzb fun w hw => ?_|refine zzh fun _ => ?_|refine zzi fun _ _ => ?_|refine zu1 ?_|refine zu2 ?_|refine zu4 fun _ => ?_|refine zzj (fun _ => ?_) fun _ => ?_)))))
      refine CW_ent (m' := [own1 (q, c) D', zB b6, ro w [] G1, blk b13 27 #[.bool a.char, .slice x1p r x1c, .slice q D'.length c], boxB b5 a]) zent ?_
      refine CW_perm 7 [0, 1, 2, 3, 4, 5, 6] [ro w [] G1, blk b13 27 #[.bool a.char, .slice x1p r x1c, .slice q D'.length c], boxB b5 a] [] zcov (pm := [own1 (q, c) D', zB b6]) Ent.refl (by kernel_rfl) (by decide +kernel) (by kernel_rfl) ?_
      (refine WP_op rfl rfl rfl zyi ?_)
      (refine WP_op rfl rfl rfl zyi ?_)
      (refine WP_op rfl rfl rfl zyi ?_)
      refine WP_callV rfl rfl rfl rfl (fun W _ => cut_fill a.char a W rfl) ?_
      refine WP_bslice (pm := [own1 (q, c) D', zB b6]) rfl Ent.refl (by kernel_rfl) rfl rfl rfl rfl rfl rfl rfl fun bs => ?_
      refine WP_append (pm := [zB b6]) rfl (by kernel_rfl) rfl rfl rfl (.there .here) .here Ent.refl rfl rfl (by omega) (by omega) rfl rfl fun q2 k2 => ?_
      (refine WP_op rfl rfl rfl zyi ?_)
      refine WP_end ?_
      ((repeat' (first|refine zza ?_|refine zc9 ?_|refine zzb fun w hw => ?_|refine zzh fun _ => ?_|refine zzi fun _ _ => ?_|refine zu1 ?_|refine zu2 ?_|refine zu3 ?_|refine zu4 fun _ => ?_|refine zzj (fun _ => ?_) fun _ => ?_)); (repeat' (refine CW_seq ?_; (repeat' (first|refine zza ?_|refine zc9 ?_|refine zzb fun w hw => ?_|refine zzh fun _ => ?_|refine zzi fun _ _ => ?_|refine zu1 ?_|refine zu2 ?_|refine zu3 ?_|refine zu4 fun _ => ?_|refine zzj (fun _ => ?_) fun _ => ?_)))))
      refine EX_loop' (j + 1, q2, k2) ⟨zcov, ?_, by show I - (j + 1) < I - j; omega, hjl⟩
      show Ent _ [ro w [] G1, blk b13 27 #[.bool a.char, .slice x1p r x1c, .slice q2 (Z (j + 1)).length k2], sl 3 1 q2 (Z (j + 1)).length k2 ((Z (j + 1)).map (Value.int .i64)), zB b6, boxB b5 a]
      rw [hZ1, hsu3, List.length_append, List.map_append]
      exact Ent.cons zpk (Ent.consK (k := zent) zpk)
    · obtain rfl : j = I := by omega
      clear ZS ZL
      ((repeat' (first|refine zza ?_|refine zc9 ?_|refine zzb fun w hw => ?_|refine zzh fun _ => ?_|refine zzi fun _ _ => ?_|refine zu1 ?_|refine zu2 ?_|refine zu3 ?_|refine zu4 fun _ => ?_|refine zzj (fun _ => ?_) fun _ => ?_)); (repeat' (refine CW_seq ?_; (repeat' (first|refine zza ?_|refine zc9 ?_|refine zzb fun w hw => ?_|refine zzh fun _ => ?_|refine zzi fun _ _ => ?_|refine zu1 ?_|refine zu2 ?_|refine zu3 ?_|refine zu4 fun _ => ?_|refine zzj (fun _ => ?_) fun _ => ?_)))))
      refine EX_loop' (i + 1, q, c) ⟨Cov.cons rfl rfl (Cov.cons (by show _ = some (Value.int .i64 ((p (i + 1) : Nat) : Int)); rw [eP]; rfl) rfl zcov), ?_, by show sx.length - (i + 1) < sx.length - i; omega, hlt⟩
      show Ent _ [ro w [] G1, blk b13 27 #[.bool a.char, .slice x1p r x1c, .slice q (D (i + 1)).length c], own1 (q, c) (D (i + 1)), zB b6, boxB b5 a]
      rw [hsu2]
      exact zent
end Go.Proofs.YtadlpfbjnpbnoaaGreatDoor
