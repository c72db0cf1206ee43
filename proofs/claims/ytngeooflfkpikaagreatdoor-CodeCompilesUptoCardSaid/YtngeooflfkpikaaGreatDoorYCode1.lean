/-
  code: the place behind an expression.
  code: an instruction is put behind the others.
-/
import Derived.Test.YtngeooflfkpikaaGreatDoorYGo
import Derived.Test.YtngeooflfkpikaaGreatDoorYCodePlain
import Derived.Test.YtngeooflfkpikaaGreatDoorYOpenIns
import Derived.Test.YtngeooflfkpikaaGreatDoorYPar
import Derived.Test.YtngeooflfkpikaaGreatDoorYQue
import Derived.Test.YtngeooflfkpikaaGreatDoorYRefTree
import Derived.Test.YtngeooflfkpikaaGreatDoorYPerm
namespace Go.Proofs.YtngeooflfkpikaaGreatDoor
open Go.RowKit
theorem nodsAt {L : List NodM} {k : Nat} {n : Nod} {r : List Nod} (h : (L.drop k).map NodM.nod = n :: r) : ∃ x, L[k]? = some x ∧ x.nod = n ∧ (L.drop (k + 1)).map NodM.nod = r := by
  have hk : k < L.length := by
    refine Nat.lt_of_not_le fun hk => ?_
    rw [List.drop_eq_nil_of_le hk] at h
    cases h
  rw [List.drop_eq_getElem_cons hk] at h
  simp only [List.map_cons, List.cons.injEq] at h
  exact ⟨L[k], by simp [hk], h.1, h.2⟩
theorem nodsDrop {L : List NodM} {k : Nat} {a r : List Nod} (h : (L.drop k).map NodM.nod = a ++ r) : (L.drop (k + a.length)).map NodM.nod = r := by
  have := congrArg (List.drop a.length) h
  rw [List.drop_left] at this
  rw [← this, ← List.map_drop, List.drop_drop]
theorem nodsLe {L : List NodM} {k : Nat} {a r : List Nod} (h : (L.drop k).map NodM.nod = a ++ r) (ha : 0 < a.length) : k + a.length ≤ L.length := by
  have := congrArg List.length h
  simp only [List.length_map, List.length_drop, List.length_append] at this
  omega
theorem nodsSub {L : List NodM} {k i : Nat} {S : List Ex} {e : Ex} {rest : List Nod} (h : (L.drop k).map NodM.nod = S.flatMap Ex.flat ++ rest) (he : S[i]? = some e) : (L.drop (endL k (S.take i))).map NodM.nod = e.flat ++ ((S.drop (i + 1)).flatMap Ex.flat ++ rest) := by
  refine nodsDrop (a := (S.take i).flatMap Ex.flat) ?_
  rw [h]
  conv => lhs; rw [← List.take_append_drop i S, drop_cons he]
  simp
theorem endL_succ {S : List Ex} {i : Nat} {e : Ex} (k : Nat) (he : S[i]? = some e) : endL k (S.take (i + 1)) = endL k (S.take i) + e.flat.length := by
  rw [List.take_add_one, he, endL_app]
  simp [endL]
theorem rd_G1 {K : Cx} {m r : List HP} {G : Rd} {b i : Nat} {v : Value} (hp : Pick m (ro K.w0 K.F G) r) (h : G ⟨b, i, none⟩ = some v) : RdC K m (⟨b, i, none⟩ : Addr) [v] := rd_G hp fun j u hu => by
  cases j with
  | zero => simp at hu; subst hu; rw [add_at, Nat.add_zero]; exact h
  | succ j => simp at hu
set_option maxHeartbeats 4000000 in
set_option maxRecDepth 100000 in
theorem code_behind (p : Option Addr) (c : Nat) (L : List NodM) (h400 : L.length ≤ 400) (hn : ∀ x ∈ L, I64 x.n) : ∀ (m : Nat) (e : Ex) (k d b : Nat) (rest : List Nod) (w : World), e.flat.length ≤ m → e.ok d → (L.drop k).map NodM.nod = e.flat ++ rest → w.cell? ⟨b, 0, none⟩ = some (.slice p L.length c) → Row nodE 7 w.cell? p c L →
    Calls Tryz.prog 172 #[.pointer (some ⟨b, 0, none⟩), .int .i64 (k : Int)] w fun en w' => en = .returned (.int .i64 ((k + e.flat.length : Nat) : Int)) ∧ Below w.heap.size w w' := by
  intro m
  induction m with
  | zero => intro e k d b rest w hm; have := e.flat_pos; omega
  | succ m ih =>
  intro e k d b rest w hm hok hL hb hR
  obtain ⟨x, hx, hxn, hL1⟩ := nodsAt (by rw [hL, e.flat_subs]; rfl)
  have hlenL := nodsLe hL e.flat_pos
  obtain ⟨s1, s2, s3, s4, s5⟩ := Ex.subs_n hok
  have hsub := Ex.subs_ok hok
  have hfl : e.flat.length = (e.subs.flatMap Ex.flat).length + 1 := by rw [e.flat_subs]; rfl
  have hle := le_endL (k + 1) e.subs
  have hend : endL (k + 1) e.subs = k + e.flat.length := by unfold endL; omega
  obtain ⟨op, aop, af, ag, n, nums, text⟩ := x
  have hn64 := hn _ (List.mem_of_getElem? hx)
  dsimp only [NodM.nod] at hxn hn64
  rw [← hxn] at s1 s2 s3 s4 s5
  unfold cntS at s5
  dsimp only at s1 s2 s3 s4 s5
  unfold I64 at hn64
  refine enterR (G := w.cell?) (args := [_, _]) (m := []) (F := []) (Rd.sub_cell w) rfl Tryz.func172 rfl Tryz.ntmps172 (by simp) ?_
  replace hL1 : (L.drop (k + 1)).map NodM.nod = e.subs.flatMap Ex.flat ++ rest := hL1
  clear hL hxn hok
  obtain ⟨S, hS⟩ : ∃ S, S = e.subs := ⟨_, rfl⟩
  rw [← hS] at s5 hsub hfl hle hend hL1
  clear hS
  generalize e.flat.length = EL at *
  clear e
  have hSL : S.length ≤ 400 := by omega
  obtain ⟨N, rfl⟩ := Int.eq_ofNat_of_zero_le s1
  clear s1
  have hkL : k < L.length := by omega
  (repeat' (first|refine zza ?_|refine zc9 ?_|refine zzb fun w hw => ?_|refine zzh fun _ => ?_|refine zzi fun _ _ => ?_|refine zzj (fun _ => ?_) fun _ => ?_))
  apply WL_op rfl rfl (y_load rfl (rd_G1 .here hb))
  (repeat' (first|refine zza ?_|refine zc9 ?_|refine zzb fun w hw => ?_|refine zzh fun _ => ?_|refine zzi fun _ _ => ?_))
  rename_i b5
  refine CW_ent (m' := [blk b5 44 #[.int .i64 op, .int .i64 aop, .int .i64 af, .int .i64 ag, .int .i64 (N : Int), .slice nums.p nums.xs.length nums.c, .string ⟨text.toArray⟩], ro w [] w.cell?]) (Ent.consK (k := Ent.cons zpk Ent.nil) zpk) ?_
  obtain ⟨s0, hs0⟩ : ∃ s0 : Nat, (s0 : Int) = (if op = 6 then 1 else if op = 7 then 2 else if op = 8 then (N : Int) + 1 else 0) := by
    by_cases h6 : op = 6
    · exact ⟨1, by rw [if_pos h6]; rfl⟩
    by_cases h7 : op = 7
    · exact ⟨2, by rw [if_neg h6, if_pos h7]; rfl⟩
    by_cases h8 : op = 8
    · exact ⟨N + 1, by rw [if_neg h6, if_neg h7, if_pos h8]; rfl⟩
    · exact ⟨0, by rw [if_neg h6, if_neg h7, if_neg h8]; rfl⟩
  rw [← hs0] at s5
  refine CW_midB [(0,_),(1,_),(5,_)] zcov (fun _ : Unit => [(6, .int .i64 (s0 : Int))]) (fun _ => True) ?_ (fun _ _ => ?_)
  · by_cases h6 : op = 6
    · rw [if_pos h6] at hs0
      rw [hs0]
      subst h6
      (repeat' (first|refine zza ?_|refine zc9 ?_|refine zzb fun w hw => ?_|refine zzh fun _ => ?_|refine zzi fun _ _ => ?_|refine zzj (fun _ => ?_) fun _ => ?_))
      (refine EX_mid' (()) ?_; (repeat' (first | exact Cov.nil | exact Ent.refl | (apply And.intro) | (apply Cov.cons; rfl) | exact Ent.nil | refine zn1 ?_ | trivial | rfl | assumption | omega | (congr 1; omega))))
    rw [if_neg h6] at hs0
    by_cases h7 : op = 7
    · rw [if_pos h7] at hs0
      rw [hs0]
      subst h7
      (repeat' (first|refine zza ?_|refine zc9 ?_|refine zzb fun w hw => ?_|refine zzh fun _ => ?_|refine zzi fun _ _ => ?_|refine zzj (fun _ => ?_) fun _ => ?_))
      (refine EX_mid' (()) ?_; (repeat' (first | exact Cov.nil | exact Ent.refl | (apply And.intro) | (apply Cov.cons; rfl) | exact Ent.nil | refine zn1 ?_ | trivial | rfl | assumption | omega | (congr 1; omega))))
    rw [if_neg h7] at hs0
    by_cases h8 : op = 8
    · rw [if_pos h8] at hs0
      rw [hs0]
      subst h8
      have : N ≤ 400 := by by_cases ha : aop = 6 <;> simp [ha] at s5 <;> omega
      (repeat' (first|refine zza ?_|refine zc9 ?_|refine zzb fun w hw => ?_|refine zzh fun _ => ?_|refine zzi fun _ _ => ?_|refine zzj (fun _ => ?_) fun _ => ?_))
      (refine EX_mid' (()) ?_; (repeat' (first | exact Cov.nil | exact Ent.refl | (apply And.intro) | (apply Cov.cons; rfl) | exact Ent.nil | refine zn1 ?_ | trivial | rfl | assumption | omega | (congr 1; omega))))
    · rw [if_neg h8] at hs0
      rw [hs0]
      (repeat' (first|refine zza ?_|refine zc9 ?_|refine zzb fun w hw => ?_|refine zzh fun _ => ?_|refine zzi fun _ _ => ?_|refine zzj (fun _ => ?_) fun _ => ?_))
      (refine EX_mid' (()) ?_; (repeat' (first | exact Cov.nil | exact Ent.refl | (apply And.intro) | (apply Cov.cons; rfl) | exact Ent.nil | refine zn1 ?_ | trivial | rfl | assumption | omega | (congr 1; omega))))
  clear hs0
  (repeat' (first|refine zza ?_|refine zc9 ?_|refine zzb fun w hw => ?_|refine zzh fun _ => ?_|refine zzi fun _ _ => ?_))
  refine CW_cutP (X := Unit) [(0,_),(1,_)] zcov (fun _ => [(6, .int .i64 (S.length : Int))]) (fun _ => True) ?_ (fun _ _ => ?_)
  · by_cases h6 : aop = 6
    · rw [if_pos h6] at s5
      rw [s5]
      subst h6
      (repeat' (first|refine zza ?_|refine zc9 ?_|refine zzb fun w hw => ?_|refine zzh fun _ => ?_|refine zzi fun _ _ => ?_|refine zzj (fun _ => ?_) fun _ => ?_))
      (refine EX_mid' (()) ?_; (repeat' (first | exact Cov.nil | exact Ent.refl | (apply And.intro) | (apply Cov.cons; rfl) | exact Ent.nil | refine zn1 ?_ | trivial | rfl | assumption | omega | (congr 1; omega))))
    · rw [if_neg h6] at s5
      rw [s5, Int.add_zero]
      (repeat' (first|refine zza ?_|refine zc9 ?_|refine zzb fun w hw => ?_|refine zzh fun _ => ?_|refine zzi fun _ _ => ?_|refine zzj (fun _ => ?_) fun _ => ?_))
      (refine EX_mid' (()) ?_; (repeat' (first | exact Cov.nil | exact Ent.refl | (apply And.intro) | (apply Cov.cons; rfl) | exact Ent.nil | refine zn1 ?_ | trivial | rfl | assumption | omega | (congr 1; omega))))
  clear s4 s5
  (repeat' (first|refine zza ?_|refine zc9 ?_|refine zzb fun w hw => ?_|refine zzh fun _ => ?_|refine zzi fun _ _ => ?_|refine zzj (fun _ => ?_) fun _ => ?_))
  have e0 : (k : Int) + 1 = ((endL (k + 1) (S.take 0) : Nat) : Int) := by simp [endL]
  rw [e0]
  refine CW_loopP [(0,_),(37,_)] zcov (fun i : Nat => [(38, .int .i64 (i : Int)), (1, .int .i64 ((endL (k + 1) (S.take i) : Nat) : Int))]) (fun i => i ≤ S.length) (fun i => S.length - i) 0 (Nat.zero_le _) zcov ?_
  intro i hi
  by_cases hlt : i < S.length
  · have hs : S[i]? = some S[i] := by simp [hlt]
    obtain ⟨d', hd'⟩ := hsub _ (List.mem_of_getElem? hs)
    have hfe := flat_le (List.mem_of_getElem? hs)
    have hLs := nodsSub hL1 hs
    have e1 := endL_succ (k + 1) hs
    have hi1 : ((i + 1 : Nat) : Int) = (i : Int) + 1 := rfl
    (repeat' (first|refine zza ?_|refine zc9 ?_|refine zzb fun w hw => ?_|refine zzh fun _ => ?_|refine zzi fun _ _ => ?_|refine zzj (fun _ => ?_) fun _ => ?_))
    (apply WL_callV; rfl; rfl; rfl; (intro W hW; exact ih S[i] (endL (k + 1) (S.take i)) d' b _ W (by omega) hd' hLs (hW.rd (.there .here) hb) (hR.mono (hW.le (.there .here)))))
    rw [← e1]
    clear hLs e1 hd' hfe
    (repeat' (first|refine zza ?_|refine zc9 ?_|refine zzb fun w hw => ?_|refine zzh fun _ => ?_|refine zzi fun _ _ => ?_|refine zzj (fun _ => ?_) fun _ => ?_))
    (refine EX_loop' ((i + 1)) ?_; (repeat' (first | exact Cov.nil | exact Ent.refl | (apply And.intro) | (apply Cov.cons; rfl) | exact Ent.nil | refine zn1 ?_ | trivial | rfl | assumption | omega | (congr 1; omega))))
  · have : i = S.length := by omega
    subst this
    rw [List.take_length, hend]
    (repeat' (first|refine zza ?_|refine zc9 ?_|refine zzb fun w hw => ?_|refine zzh fun _ => ?_|refine zzi fun _ _ => ?_|refine zzj (fun _ => ?_) fun _ => ?_))
    exact ⟨rfl, hw.below⟩
/-- where expressions begin, as numbers -/
def posI (k : Nat) (es : List Ex) : List Int := (posL k es).map fun n : Nat => (n : Int)
theorem posI_succ {S : List Ex} {i : Nat} {e : Ex} (k : Nat) (he : S[i]? = some e) : (posI k (S.take (i + 1))).map (Value.int .i64) = (posI k (S.take i)).map (Value.int .i64) ++ [.int .i64 ((endL k (S.take i) : Nat) : Int)] := by
  unfold posI
  rw [List.take_add_one, he, posL_app]
  simp [posL]
set_option maxHeartbeats 4000000 in
set_option maxRecDepth 100000 in
theorem code_parts (p : Option Addr) (c : Nat) (L : List NodM) (h400 : L.length ≤ 400) (hn : ∀ x ∈ L, I64 x.n) (es : List Ex) (k b : Nat) (rest : List Nod) (w : World) (hok : ∀ s ∈ es, ∃ d, s.ok d) (hL : (L.drop k).map NodM.nod = es.flatMap Ex.flat ++ rest) (hb : w.cell? ⟨b, 0, none⟩ = some (.slice p L.length c)) (hR : Row nodE 7 w.cell? p c L) :
    Calls Tryz.prog 77 #[.pointer (some ⟨b, 0, none⟩), .int .i64 (k : Int), .int .i64 (es.length : Int)] w fun en w' => ∃ x : Option Addr × Nat, True ∧ en = .returned (.slice x.1 es.length x.2) ∧ Holds w [] [sl 3 1 x.1 es.length x.2 ((posI k es).map (Value.int .i64))] w' := by
  have hlen : es.length ≤ 400 := by
    have := congrArg List.length hL
    simp only [List.length_map, List.length_drop, List.length_append] at this
    have := le_endL k es
    unfold endL at this
    omega
  refine enterR (G := w.cell?) (args := [_, _, _]) (m := []) (F := []) (Rd.sub_cell w) rfl Tryz.func77 rfl Tryz.ntmps77 (by simp) ?_
  (repeat' (first|refine zza ?_|refine zc9 ?_|refine zzb fun w hw => ?_|refine zzh fun _ => ?_|refine zzi fun _ _ => ?_))
  refine CW_ent (m' := [sl 3 1 none 0 0 [], ro w [] w.cell?]) (Ent.nilown Ent.refl) ?_
  refine CW_loopK [(0,_),(8,_)] zcov (fun x : Nat × Option Addr × Nat => [(9, .int .i64 (x.1 : Int)), (7, .slice x.2.1 x.1 x.2.2), (1, .int .i64 ((endL k (es.take x.1) : Nat) : Int))]) (fun x => [sl 3 1 x.2.1 x.1 x.2.2 ((posI k (es.take x.1)).map (Value.int .i64)), ro w [] w.cell?]) (fun x => x.1 ≤ es.length) (fun x => es.length - x.1) (0, none, 0) (Nat.zero_le _) zcov zent ?_
  rintro ⟨i, q, c1⟩ hi
  dsimp only at hi ⊢
  by_cases hlt : i < es.length
  · have hs : es[i]? = some es[i] := by simp [hlt]
    obtain ⟨d', hd'⟩ := hok _ (List.mem_of_getElem? hs)
    have hLs := nodsSub hL hs
    have e1 := endL_succ k hs
    have e2 := posI_succ k hs
    have hle := nodsLe hLs es[i].flat_pos
    have hi1 : ((i + 1 : Nat) : Int) = (i : Int) + 1 := rfl
    (repeat' (first|refine zza ?_|refine zc9 ?_|refine zzb fun w hw => ?_|refine zzh fun _ => ?_|refine zzi fun _ _ => ?_|refine zzj (fun _ => ?_) fun _ => ?_))
    (apply WL_callV; rfl; rfl; rfl; (intro W hW; exact code_behind p c L h400 hn _ es[i] (endL k (es.take i)) d' b _ W (Nat.le_refl _) hd' hLs (hW.rd (.there .here) hb) (hR.mono (hW.le (.there .here)))))
    rw [← e1]
    clear hLs hd'
    (repeat' (first|refine zza ?_|refine zc9 ?_|refine zzb fun w hw => ?_|refine zzh fun _ => ?_|refine zzi fun _ _ => ?_|refine zzj (fun _ => ?_) fun _ => ?_))
    refine EX_loop' (i + 1, _, _) ⟨zcov, ?_, by dsimp only; omega, by dsimp only; omega⟩
    dsimp only
    rw [e2]
    exact zent
  · have : i = es.length := by omega
    subst this
    rw [List.take_length]
    (repeat' (first|refine zza ?_|refine zc9 ?_|refine zzb fun w hw => ?_|refine zzh fun _ => ?_|refine zzi fun _ _ => ?_|refine zzj (fun _ => ?_) fun _ => ?_))
    exact ⟨(q, c1), trivial, rfl, hw.ent zent⟩
end Go.Proofs.YtngeooflfkpikaaGreatDoor
namespace Go.Proofs.YtngeooflfkpikaaGreatDoor
open Go.RowKit
/-- the maker of code: the nodes, the code, those that wait, where the function begins -/
abbrev mkr (b : Nat) (p : Option Addr) (n c : Nat) (o : Option Addr × Nat × Nat) (q : Option Addr × Nat × Nat) (h : Int) : HP := blk b 80 #[.slice p n c, .slice o.1 o.2.1 o.2.2, .slice q.1 q.2.1 q.2.2, .int .i64 h]
abbrev outS (o : Option Addr × Nat × Nat) (xs : List InsM) : HP := sl 72 8 o.1 o.2.1 o.2.2 (xs.flatMap insE)
set_option maxHeartbeats 4000000 in
set_option maxRecDepth 100000 in
theorem code_put0 (G : Rd) (b : Nat) (p : Option Addr) (n c : Nat) (o q : Option Addr × Nat × Nat) (h : Int) (xs : List InsM) (x : InsM) (w : World) (fp : List Nat) (hO : Own [mkr b p n c o q h, outS o xs] fp w) (hS : Rd.sub G fp w) (ho : o.2.1 ≤ 1000000000) :
    Calls Tryz.prog 27 #[.pointer (some ⟨b, 0, none⟩), .agg (insE x).toArray] w fun e w' => ∃ z : Option Addr × Nat, True ∧ e = .returned (.int .i64 (o.2.1 : Int)) ∧ Holds w fp (ro w fp G :: [mkr b p n c (z.1, o.2.1 + 1, z.2) q h, outS (z.1, o.2.1 + 1, z.2) (xs ++ [x])]) w' := by
  obtain ⟨o1, o2, o3⟩ := o
  obtain ⟨q1, q2, q3⟩ := q
  obtain ⟨op, aop, af, ag, nn, dst, nums, text⟩ := x
  dsimp only [outS, insE] at hO ho ⊢
  refine enterR (args := [_, _]) hS hO Tryz.func27 rfl Tryz.ntmps27 (by simp) ?_
  (repeat' (first|refine zza ?_|refine zzb fun w hw => ?_|refine zzh fun _ => ?_|refine zzi fun _ _ => ?_|refine zzj (fun _ => ?_) fun _ => ?_))
  rename_i bx
  refine CW_perm 8 [0, 1, 2, 3, 4, 5, 6, 7] [blk bx 72 #[.int .i64 op, .int .i64 aop, .int .i64 af, .int .i64 ag, .int .i64 nn, .int .i64 dst, .slice nums.p nums.xs.length nums.c, .string ⟨text.toArray⟩], mkr b p n c (o1, o2, o3) (q1, q2, q3) h, ro w fp G] [] Cov.nil (pm := [sl 72 8 o1 o2 o3 (xs.flatMap insE)]) zent (by kernel_rfl) (by decide +kernel) (by kernel_rfl) ?_
  (refine WP_op rfl rfl rfl zyi ?_)
  (refine WP_op rfl rfl rfl zyi ?_)
  (refine WP_op rfl rfl rfl zyi ?_)
  (refine WP_op rfl rfl rfl zyi ?_)
  (refine WP_op rfl rfl rfl zyi ?_)
  (refine WP_op rfl rfl rfl zyi ?_)
  apply WP_bslice (hk := rfl) (pm := [sl 72 8 o1 o2 o3 (xs.flatMap insE)]) (he := zent) (hso := by decide +kernel) (hx := rfl) (hl := rfl) (hc := rfl) (hs := rfl) (h0 := rfl) (hg := rfl) (hn := rfl)
  intro bb
  apply WP_append (hk := rfl) (hso := by decide +kernel) (hx := rfl) (hy := rfl) (he := rfl) (hp := .there (.there (.there (.there .here)))) (hp2 := .here) (pm := []) (hr := zent) (hl := rfl) (h1' := rfl) (hmax := by omega) (hmax2 := by omega) (hg := rfl) (hn := rfl)
  intro q' c2
  refine WP_end ?_
  (repeat' (first|refine zza ?_|refine zc9 ?_|refine zzb fun w hw => ?_|refine zzh fun _ => ?_|refine zzi fun _ _ => ?_|refine zzj (fun _ => ?_) fun _ => ?_))
  refine ⟨(q', c2), trivial, by rw [show ((o2 + 1 : Nat) : Int) - 1 = (o2 : Int) by omega], ?_⟩
  rw [List.flatMap_append, List.flatMap_cons, List.flatMap_nil, List.append_nil]
  exact hw.ent zent
/-- the code that is made, and those that wait: each in a slice of the call's own -/
def wtC (w : Wt) : List Value := [.int .i64 (w.pos : Int), .int .i64 w.n, .int .i64 (w.call : Int)]
abbrev queS (q : Option Addr × Nat) (ws : List Wt) : HP := sq 84 3 q.1 ws.length q.2 (ws.flatMap wtC)
abbrev mkS (b : Nat) (p : Option Addr) (n c : Nat) (h : Int) (o : Option Addr × Nat) (xs : List InsM) (q : Option Addr × Nat) (ws : List Wt) : List HP := [mkr b p n c (o.1, xs.length, o.2) (q.1, ws.length, q.2) h, outS (o.1, xs.length, o.2) xs, queS q ws]
theorem code_put (G : Rd) (b : Nat) (p : Option Addr) (n c : Nat) (o : Option Addr × Nat) (q : Option Addr × Nat × Nat) (h : Int) (xs : List InsM) (x : InsM) (w : World) (fp : List Nat) (hO : Own [mkr b p n c (o.1, xs.length, o.2) q h, outS (o.1, xs.length, o.2) xs] fp w) (hS : Rd.sub G fp w) (ho : xs.length ≤ 1000000000) :
    Calls Tryz.prog 27 #[.pointer (some ⟨b, 0, none⟩), .agg (insE x).toArray] w fun e w' => ∃ z : Option Addr × Nat, True ∧ e = .returned (.int .i64 (xs.length : Int)) ∧ Holds w fp (ro w fp G :: [mkr b p n c (z.1, (xs ++ [x]).length, z.2) q h, outS (z.1, (xs ++ [x]).length, z.2) (xs ++ [x])]) w' :=
  (code_put0 G b p n c (o.1, xs.length, o.2) q h xs x w fp hO hS ho).mono fun e w' h => by
    have e1 : (xs ++ [x]).length = xs.length + 1 := by simp
    rw [e1]
    exact h
end Go.Proofs.YtngeooflfkpikaaGreatDoor
