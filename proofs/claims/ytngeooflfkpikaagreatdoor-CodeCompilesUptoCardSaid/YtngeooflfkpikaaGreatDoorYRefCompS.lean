/-
  ravelinref4: Compiled: where pieces begin; those that wait, one behind the other; the whole.
-/
import Derived.Test.YtngeooflfkpikaaGreatDoorYGo
import Derived.Test.YtngeooflfkpikaaGreatDoorYRefComp
import Derived.Test.YtngeooflfkpikaaGreatDoorYRefFault
namespace Go.Proofs.YtngeooflfkpikaaGreatDoor
open Go.RowKit
theorem comp_lay2 (C : List Ins) (q : Option Addr) (c : Nat) (ps : List PX) (qs : Option Addr) (ks : Nat) (G0 G : Rd) (W : World) (g0 : Rd.grow W G0 G) (hPr : Row pcE 2 G q c ps) (hP : ∀ z ∈ ps, PcR (cod z) z.2 z.1 G) (hL : LayI C [] (spread 0 (ps.map cod)) (begs 0 (ps.map cod)).tail) (hT : total (ps.map cod) ≤ 90000) (hp0 : ps.length ≤ 90000) (hgo : ∀ c ∈ ps.map cod, ToOk c) :
    CW Tryz.prog ⟨148, [], W, []⟩ (QBody Tryz.prog Tryz.f7 (Tells compV (CompR 0 C) G0 W)) (cP [1, 1, 1, 1, 1, 1, 1, 1, 1, 1] ccode) [(7, .slice q ps.length c), (10, .slice qs (ps.length + 1) ks)] [ro W [] G, sl 3 1 qs (ps.length + 1) ks ((bnds (ps.map cod) ps.length).map (Value.int .i64))] := by
  rw [← flatI]
  exact CW_row (enc := encI) (sz := 1) (fun _ => rfl) (by decide) rfl (Ent.cons .here (Ent.cons .here Ent.nil)) fun G' g r => comp_lay C q c ps qs ks G0 G' W (Rd.grow_tr g0 g) (hPr.mono g.1) r (fun z hz => (hP z hz).mono g.1) hL hT hp0 hgo
set_option maxHeartbeats 8000000 in
set_option maxRecDepth 100000 in
theorem comp_starts (C : List Ins) (q : Option Addr) (c : Nat) (ps : List PX) (G0 G : Rd) (W : World) (g0 : Rd.grow W G0 G) (hPr : Row pcE 2 G q c ps) (hP : ∀ z ∈ ps, PcR (cod z) z.2 z.1 G) (hL : LayI C [] (spread 0 (ps.map cod)) (begs 0 (ps.map cod)).tail) (hT : total (ps.map cod) ≤ 90000) (hp0 : ps.length ≤ 90000) (hgo : ∀ c ∈ ps.map cod, ToOk c) :
    CW Tryz.prog ⟨148, [], W, []⟩ (QBody Tryz.prog Tryz.f7 (Tells compV (CompR 0 C) G0 W)) (cP [1, 1, 1, 1, 1, 1, 1, 1] ccode) [(7, .slice q ps.length c)] [ro W [] G] := by
  have key := fun qs ks => comp_lay2 C q c ps qs ks G0 G W g0 hPr hP hL hT hp0 hgo
  conv =>
    pattern cP _ _
    whnf
  ((repeat' (first|refine zza ?_|refine zc9 ?_|refine zzb fun w hw => ?_|refine zzh fun _ => ?_|refine zzi fun _ _ => ?_|refine zzj (fun _ => ?_) fun _ => ?_)); (repeat' (refine CW_seq ?_; (repeat' (first|refine zza ?_|refine zc9 ?_|refine zzb fun w hw => ?_|refine zzh fun _ => ?_|refine zzi fun _ _ => ?_|refine zzj (fun _ => ?_) fun _ => ?_)))))
  rename_i b0
  refine CW_loopK [(7,_)] zcov (fun x : Nat × Option Addr × Nat => [(11, .int .i64 (x.1 : Int)), (10, .slice x.2.1 (x.1 + 1) x.2.2)]) (fun x => [ro W [] G, sl 3 1 x.2.1 (x.1 + 1) x.2.2 ((bnds (ps.map cod) x.1).map (Value.int .i64))]) (fun x => x.1 ≤ ps.length) (fun x => ps.length - x.1) (0, some ⟨b0, 0, none⟩, 1) (Nat.zero_le _) zcov ?_ ?_
  · have e1 : bnds (ps.map cod) 0 = [0] := by simp [bnds, total]
    dsimp only
    rw [e1]
    exact Ent.cons (.there .here) (Ent.blkSl (n := 1) .here rfl rfl (by decide) Ent.nil)
  rintro ⟨i, q1, c1⟩ hi
  dsimp only at hi ⊢
  by_cases hlt : i < ps.length
  · obtain ⟨z, hz⟩ : ∃ z, ps[i]? = some z := ⟨ps[i], by simp [hlt]⟩
    have hcz : (ps.map cod)[i]? = some (cod z) := by rw [List.getElem?_map, hz]; rfl
    have hst := bnds_step hcz
    have hzl : z.1.1.length = (cod z).length := (List.length_map _).symm
    have htl : total ((ps.map cod).take (i + 1)) ≤ total (ps.map cod) := total_take_le _ _
    rw [total_take hcz] at htl
    have hget : ((bnds (ps.map cod) i).map (Value.int .i64))[i]? = some (.int .i64 ((total ((ps.map cod).take i) : Nat) : Int)) := by rw [List.getElem?_map, bnds_get _ (Nat.le_refl i)]; rfl
    have hbl : ((bnds (ps.map cod) i).map (Value.int .i64)).length = i + 1 := by rw [List.length_map, bnds_len]
    clear key hP hL hgo hcz
    generalize total ((ps.map cod).take i) = s at hst htl hget
    generalize bnds (ps.map cod) i = Bs at hst hget hbl ⊢
    generalize total (ps.map cod) = TT at hT htl
    rw [← hzl] at hst
    ((repeat' (first|refine zza ?_|refine zc9 ?_|refine zzb fun w hw => ?_|refine zzh fun _ => ?_|refine zzi fun _ _ => ?_|refine zzj (fun _ => ?_) fun _ => ?_)); (repeat' (refine CW_seq ?_; (repeat' (first|refine zza ?_|refine zc9 ?_|refine zzb fun w hw => ?_|refine zzh fun _ => ?_|refine zzi fun _ _ => ?_|refine zzj (fun _ => ?_) fun _ => ?_)))))
    refine WB_op rfl rfl (y_load rfl (rd_own1 (i := i) zpk hget)) ?_
    ((repeat' (first|refine zza ?_|refine zc9 ?_|refine zzb fun w hw => ?_|refine zzh fun _ => ?_|refine zzi fun _ _ => ?_|refine zzj (fun _ => ?_) fun _ => ?_)); (repeat' (refine CW_seq ?_; (repeat' (first|refine zza ?_|refine zc9 ?_|refine zzb fun w hw => ?_|refine zzh fun _ => ?_|refine zzi fun _ _ => ?_|refine zzj (fun _ => ?_) fun _ => ?_)))))
    rename_i q3 c3
    refine EX_loop' (i + 1, q3, c3) ⟨zcov, ?_, by dsimp only; omega, by dsimp only; omega⟩
    dsimp only
    rw [hst, List.map_append]
    exact zent
  · obtain rfl : i = ps.length := by omega
    repeat' (first | exact CW_cov zcov (CW_ent zent (key q1 c1)) | refine zza ?_ | refine zzh fun _ => ?_)
theorem flat_atC {α : Type} {enc : α → List Value} {sz : Nat} (hs : ∀ x, (enc x).length = sz) {xs : List α} {i j : Nat} {x : α} {v : Value} (h : xs[i]? = some x) (hv : (enc x)[j]? = some v) : ((xs.flatMap enc).drop (i * sz + j)).take [v].length = [v] := by
  obtain ⟨a, b, h1, h2⟩ := flat_atP hs h
  have hj : j < (enc x).length := (List.getElem?_eq_some_iff.1 hv).1
  rw [h1, ← h2, ← List.drop_drop, List.drop_left, List.drop_append_of_le_length (by omega), List.drop_eq_getElem_cons hj]
  rw [List.getElem?_eq_getElem hj] at hv
  injection hv with hv
  rw [hv]
  rfl
theorem pc_waits {ps : List PX} {i : Nat} {z : PX} (h : ps[i]? = some z) : ((ps.flatMap pcE).drop (i * 2 + 1)).take [(pvs z.1 z.2).2].length = [(pvs z.1 z.2).2] := flat_atC (enc := pcE) (fun _ => rfl) h rfl
set_option maxHeartbeats 8000000 in
set_option maxRecDepth 100000 in
theorem comp_queue (p : Option Addr) (cL : Nat) (L : List NodM) (hL : L.length ≤ 400) (e : Ex) (pp : Nat) (hok : e.ok 0) (B K : Nat) (hB9 : B ≤ 90000) (hK9 : K ≤ 90000) (q : Option Addr) (c : Nat) (z0 : PX) (G0 G : Rd) (W : World) (g0 : Rd.grow W G0 G) (hR : Row nodE 7 G0 p cL L) (hB : ∀ x ∈ L, NodG G0 x) (hz0 : PcR (cod z0) z0.2 z0.1 G) (f : Nat) (hrun : RunI (L.map NodM.nod) (pieces pp e) B K ([z0].map cod) z0.2 f) :
    CW Tryz.prog ⟨148, [], W, []⟩ (QBody Tryz.prog Tryz.f7 (Tells compV (CompR 0 (compC pp e)) G0 W)) (cP [1, 1, 1, 1, 1, 1, 1] ccode) [(0, .slice p L.length cL), (7, .slice q 1 c)] [sl 67 2 q 1 c ([z0].flatMap pcE), ro W [] G] := by
  have key := fun q c ps (G : Rd) g0 hPr hP hLay hT hp0 hgo => comp_starts (compC pp e) q c ps G0 G W g0 hPr hP hLay hT hp0 hgo
  conv =>
    pattern cP _ _
    whnf
  ((repeat' (first|refine zza ?_|refine zc9 ?_|refine zzb fun w hw => ?_|refine zzh fun _ => ?_|refine zzi fun _ _ => ?_|refine zzj (fun _ => ?_) fun _ => ?_)); (repeat' (refine CW_seq ?_; (repeat' (first|refine zza ?_|refine zc9 ?_|refine zzb fun w hw => ?_|refine zzh fun _ => ?_|refine zzi fun _ _ => ?_|refine zzj (fun _ => ?_) fun _ => ?_)))))
  refine CW_loopK [(0,_)] zcov (fun x : Nat × List PX × (Option Addr × Nat) × Rd × Nat => [(8, .int .i64 (x.1 : Int)), (7, .slice x.2.2.1.1 x.2.1.length x.2.2.1.2)]) (fun x => [sl 67 2 x.2.2.1.1 x.2.1.length x.2.2.1.2 (x.2.1.flatMap pcE), ro W [] x.2.2.2.1]) (fun x => x.1 ≤ x.2.1.length ∧ (∀ z ∈ x.2.1, PcR (cod z) z.2 z.1 x.2.2.2.1) ∧ RunI (L.map NodM.nod) (pieces pp e) B K (x.2.1.map cod) ((x.2.1.drop x.1).flatMap (·.2)) x.2.2.2.2 ∧ Rd.grow W G0 x.2.2.2.1) (fun x => K - x.1) (0, [z0], (q, c), G, f) ⟨Nat.zero_le _, fun z hz => by rw [List.mem_singleton.1 hz]; exact hz0, by simpa using hrun, g0⟩ zcov zent ?_
  clear hz0 hrun g0
  rintro ⟨i, ps, ⟨q1, c1⟩, G1, f1⟩ ⟨hi, hP, hr, g1⟩
  dsimp only at hi hP hr g1 ⊢
  have hm := hr.many
  rw [List.length_map] at hm
  by_cases hlt : i < ps.length
  · obtain ⟨z, hz⟩ : ∃ z, ps[i]? = some z := ⟨ps[i], by simp [hlt]⟩
    have hdr : (ps.drop i).flatMap (·.2) = z.2 ++ (ps.drop (i + 1)).flatMap (·.2) := by rw [drop_cons_q hz]; rfl
    rw [hdr] at hr
    clear key hdr
    ((repeat' (first|refine zza ?_|refine zc9 ?_|refine zzb fun w hw => ?_|refine zzh fun _ => ?_|refine zzi fun _ _ => ?_|refine zzj (fun _ => ?_) fun _ => ?_)); (repeat' (refine CW_seq ?_; (repeat' (first|refine zza ?_|refine zc9 ?_|refine zzb fun w hw => ?_|refine zzh fun _ => ?_|refine zzi fun _ _ => ?_|refine zzj (fun _ => ?_) fun _ => ?_)))))
    refine CW_loopK [(0,_),(8,_)] zcov (fun x : Nat × List PX × (Option Addr × Nat) × Rd × Nat => [(9, .int .i64 (x.1 : Int)), (7, .slice x.2.2.1.1 x.2.1.length x.2.2.1.2)]) (fun x => [sl 67 2 x.2.2.1.1 x.2.1.length x.2.2.1.2 (x.2.1.flatMap pcE), ro W [] x.2.2.2.1]) (fun x => x.1 ≤ z.2.length ∧ x.2.1[i]? = some z ∧ (∀ z ∈ x.2.1, PcR (cod z) z.2 z.1 x.2.2.2.1) ∧ RunI (L.map NodM.nod) (pieces pp e) B K (x.2.1.map cod) (z.2.drop x.1 ++ (x.2.1.drop (i + 1)).flatMap (·.2)) x.2.2.2.2 ∧ Rd.grow W G0 x.2.2.2.1) (fun x => z.2.length - x.1) (0, ps, (q1, c1), G1, f1) ⟨Nat.zero_le _, hz, hP, by simpa using hr, g1⟩ zcov zent ?_
    clear hP hr g1 hm hz
    rintro ⟨j, qs, ⟨q2, c2⟩, G2, f2⟩ ⟨hj, hz, hP, hr, g2⟩
    dsimp only at hj hz hP hr g2 ⊢
    have hzR := hP z (List.mem_of_getElem? hz)
    have hiq : i < qs.length := (List.getElem?_eq_some_iff.1 hz).1
    have hm := hr.many
    have hbd := hr.bound
    rw [List.length_map] at hm
    rw [List.length_append] at hbd
    have hzw := hzR.waits
    have hzl := hzw.len
    by_cases hjt : j < z.2.length
    · obtain ⟨⟨wa, wn⟩, hzj⟩ : ∃ x, z.2[j]? = some x := ⟨z.2[j], by simp [hjt]⟩
      rw [drop_cons_q hzj, List.cons_append] at hr
      obtain ⟨b, pos, N, d, rest, f3, hf3, hx, hbo, hbl, hbd2, hr3⟩ := hr.step (by omega)
      injection hx with hx1 hx2
      subst hx1 hx2
      have hposL : pos ≤ L.length := by
        have h1 := congrArg List.length hbd2
        rw [List.length_drop, List.length_map, List.length_append] at h1
        have h2 := b.flat_len
        omega
      have hwr := fun (W' : World) hS => ref_written p cL L b.list pos d N (Exs.list_ok b d hbo) (by rw [Exs.list_len]; exact hbl) rest (by rw [Exs.list_flat]; exact hbd2) hL hposL G2 W' hS (hR.mono g2.1) (fun x hx => (hB x hx).mono g2.1)
      rw [pcsG_list] at hwr
      clear hr hbo hbl hbd2 hzR
      have hq9 : qs.length ≤ 90000 := by omega
      clear hbd
      ((repeat' (first|refine zza ?_|refine zc9 ?_|refine zzb fun w hw => ?_|refine zzh fun _ => ?_|refine zzi fun _ _ => ?_|refine zzj (fun _ => ?_) fun _ => ?_)); (repeat' (refine CW_seq ?_; (repeat' (first|refine zza ?_|refine zc9 ?_|refine zzb fun w hw => ?_|refine zzh fun _ => ?_|refine zzi fun _ _ => ?_|refine zzj (fun _ => ?_) fun _ => ?_)))))
      refine WL_op rfl rfl (y_ixo (i := i) rfl rfl .here hiq) ?_
      refine zza ?_
      refine WL_op rfl rfl (y_load rfl (rd_own (i := i) (j := 1) .here (pc_waits hz) (by simp; omega))) ?_
      ((repeat' (first|refine zza ?_|refine zc9 ?_|refine zzb fun w hw => ?_|refine zzh fun _ => ?_|refine zzi fun _ _ => ?_|refine zzj (fun _ => ?_) fun _ => ?_)); (repeat' (refine CW_seq ?_; (repeat' (first|refine zza ?_|refine zc9 ?_|refine zzb fun w hw => ?_|refine zzh fun _ => ?_|refine zzi fun _ _ => ?_|refine zzj (fun _ => ?_) fun _ => ?_)))))
      refine WL_op rfl rfl (y_ixo (i := i) rfl rfl .here hiq) ?_
      refine zza ?_
      refine WL_op rfl rfl (y_load rfl (rd_own (i := i) (j := 1) .here (pc_waits hz) (by simp; omega))) ?_
      ((repeat' (first|refine zza ?_|refine zc9 ?_|refine zzb fun w hw => ?_|refine zzh fun _ => ?_|refine zzi fun _ _ => ?_|refine zzj (fun _ => ?_) fun _ => ?_)); (repeat' (refine CW_seq ?_; (repeat' (first|refine zza ?_|refine zc9 ?_|refine zzb fun w hw => ?_|refine zzh fun _ => ?_|refine zzi fun _ _ => ?_|refine zzj (fun _ => ?_) fun _ => ?_)))))
      refine WL_callT (r := [sl 67 2 q2 qs.length c2 (qs.flatMap pcE)]) (Ent.cons zpk (Ent.cons zpk Ent.nil)) rfl rfl rfl hwr ?_
      clear hwr
      intro y G3 h3 g3
      ((repeat' (first|refine zza ?_|refine zc9 ?_|refine zzb fun w hw => ?_|refine zzh fun _ => ?_|refine zzi fun _ _ => ?_|refine zzj (fun _ => ?_) fun _ => ?_)); (repeat' (refine CW_seq ?_; (repeat' (first|refine zza ?_|refine zc9 ?_|refine zzb fun w hw => ?_|refine zzh fun _ => ?_|refine zzi fun _ _ => ?_|refine zzj (fun _ => ?_) fun _ => ?_)))))
      rename_i b9 q9 c9
      have hcy : cod (y, wsF pos b.list) = b.pcsF 0 := h3.eq
      rw [show qs.length + 1 = (qs ++ [(y, wsF pos b.list)]).length by simp]
      refine EX_loop' (j + 1, qs ++ [(y, wsF pos b.list)], (q9, c9), G3, f3) ⟨zcov, ?_, by dsimp only; omega, by dsimp only; omega, ?_, ?_, ?_, Rd.grow_tr g2 g3⟩
      · dsimp only
        rw [show (qs ++ [(y, wsF pos b.list)]).flatMap pcE = qs.flatMap pcE ++ pcE (y, wsF pos b.list) by simp]
        exact zent
      · dsimp only
        rw [List.getElem?_append_left hiq]
        exact hz
      · intro x hx
        rcases List.mem_append.1 hx with hx | hx
        · exact (hP x hx).mono g3.1
        · rw [List.mem_singleton.1 hx]
          exact ⟨rfl, h3.good, h3.code, h3.waits⟩
      · dsimp only
        rw [List.map_append, List.map_singleton, hcy, List.drop_append_of_le_length (by omega), List.flatMap_append, List.flatMap_singleton, ← List.append_assoc]
        exact hr3
    · rw [List.drop_eq_nil_of_le (by omega), List.nil_append] at hr
      clear hzR hbd hzw
      ((repeat' (first|refine zza ?_|refine zc9 ?_|refine zzb fun w hw => ?_|refine zzh fun _ => ?_|refine zzi fun _ _ => ?_|refine zzj (fun _ => ?_) fun _ => ?_)); (repeat' (refine CW_seq ?_; (repeat' (first|refine zza ?_|refine zc9 ?_|refine zzb fun w hw => ?_|refine zzh fun _ => ?_|refine zzi fun _ _ => ?_|refine zzj (fun _ => ?_) fun _ => ?_)))))
      refine WL_op rfl rfl (y_ixo (i := i) rfl rfl .here hiq) ?_
      refine zza ?_
      refine WL_op rfl rfl (y_load rfl (rd_own (i := i) (j := 1) .here (pc_waits hz) (by simp; omega))) ?_
      ((repeat' (first|refine zza ?_|refine zc9 ?_|refine zzb fun w hw => ?_|refine zzh fun _ => ?_|refine zzi fun _ _ => ?_|refine zzj (fun _ => ?_) fun _ => ?_)); (repeat' (refine CW_seq ?_; (repeat' (first|refine zza ?_|refine zc9 ?_|refine zzb fun w hw => ?_|refine zzh fun _ => ?_|refine zzi fun _ _ => ?_|refine zzj (fun _ => ?_) fun _ => ?_)))))
      exact EX_loop' (i + 1, qs, (q2, c2), G2, f2) ⟨zcov, zent, by dsimp only; omega, by dsimp only; omega, hP, hr, g2⟩
  · have hil : i = ps.length := by omega
    subst hil
    rw [List.drop_length, List.flatMap_nil] at hr
    have hbd := hr.bound
    have key2 := CW_row (enc := pcE) (sz := 2) (m := [sl 67 2 q1 ps.length c1 (ps.flatMap pcE), ro W [] G1]) (fun _ => rfl) (by decide) rfl (Ent.cons (.there .here) (Ent.cons .here Ent.nil)) fun G' g r => key q1 c1 ps G' (Rd.grow_tr g1 g) r (fun z hz => (hP z hz).mono g.1) (LayI.start hok hr) (by omega) (by omega) hr.goes
    clear key hP hr
    repeat' (first | exact CW_cov zcov key2 | refine zza ?_ | refine zzh fun _ => ?_)
end Go.Proofs.YtngeooflfkpikaaGreatDoor
