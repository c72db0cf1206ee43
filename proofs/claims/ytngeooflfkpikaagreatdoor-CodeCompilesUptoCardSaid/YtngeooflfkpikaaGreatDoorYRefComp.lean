/-
  ravelinref4: Compiled: pieces laid down.
-/
import Derived.Test.YtngeooflfkpikaaGreatDoorYGo
import Derived.Test.YtngeooflfkpikaaGreatDoorYPieceRun
import Derived.Test.YtngeooflfkpikaaGreatDoorYRefPcu
namespace Go.Proofs.YtngeooflfkpikaaGreatDoor
open Go.RowKit
abbrev PX := PcX × List (Int × Int)
/-- a piece, as it lies in memory -/
def pcE (z : PX) : List Value := [(pvs z.1 z.2).1, (pvs z.1 z.2).2]
def cod (z : PX) : List Ins := z.1.1.map InsM.ins
theorem flat_atP {α : Type} {enc : α → List Value} {sz : Nat} (hs : ∀ x, (enc x).length = sz) : ∀ {xs : List α} {i : Nat} {x : α}, xs[i]? = some x → ∃ a b, xs.flatMap enc = a ++ (enc x ++ b) ∧ a.length = i * sz
  | y :: r, 0, x, h => by
    obtain rfl : y = x := by simpa using h
    exact ⟨[], r.flatMap enc, by simp, by simp⟩
  | y :: r, i + 1, x, h => by
    obtain ⟨a, b, h1, h2⟩ := flat_atP hs (xs := r) (i := i) (x := x) (by simpa using h)
    exact ⟨enc y ++ a, b, by rw [List.flatMap_cons, h1, List.append_assoc], by rw [List.length_append, hs, h2, Nat.succ_mul]; omega⟩
noncomputable abbrev ccode : Code := (Tryz.f7.body).getD .skip
/-- what Compiled tells -/
abbrev CX := Int × List InsM × Option Addr × Nat
abbrev compV (z : CX) : Value := .tuple #[.slice z.2.2.1 z.2.1.length z.2.2.2, .int .i64 z.1]
structure CompR (e : Int) (C : List Ins) (z : CX) (G : Rd) : Prop where
  err : z.1 = e
  code : z.2.1.map InsM.ins = C
  good : ∀ x ∈ z.2.1, InsG G x
  row : Row insE 8 G z.2.2.1 z.2.2.2 z.2.1
theorem spread_drop {cs : List (List Ins)} {i : Nat} {c : List Ins} (h : cs[i]? = some c) (s : Nat) : spread s (cs.drop i) = at_ s c ++ spread (s + c.length) (cs.drop (i + 1)) := by
  rw [drop_cons_q h]
  rfl
/-- a slice of one's own may only be read from here on -/
theorem CW_row {α : Type} {enc : α → List Value} {sz : Nat} (hs : ∀ x, (enc x).length = sz) (h0 : 0 < sz) {P : Program} {K : Cx} {ρ : Env} {m r : List HP} {Q : Exit → Act → World → Prop} {cd : Code} {G : Rd} {e : TypeId} {n c : Nat} {p : Option Addr} {xs : List α} (hF : K.F = []) (he : Ent m (ro K.w0 K.F G :: sl e sz p n c (xs.flatMap enc) :: r))
    (k : ∀ G', Rd.grow K.w0 G G' → Row enc sz G' p c xs → CW P K Q cd ρ (ro K.w0 K.F G' :: r)) : CW P K Q cd ρ m := ⟨fun a w hf hm => by
  obtain ⟨G', g1, g2, g3⟩ := Holds.toRo hs h0 (hm.ent he) (fun _ _ => by rw [hF]; simp)
  exact (k G' g1 g2).run a w hf g3⟩
def setM (t : Int) (x : InsM) : InsM := { x with dst := t }
theorem setM_good {G : Rd} {t : Int} {x : InsM} (h : InsG G x) : InsG G (setM t x) := ⟨h.text, h.nums, h.numsL⟩
abbrev inB (b : Nat) (x : InsM) : HP := blk b 72 (insE x).toArray
theorem EX_cov {K : Cx} {Q : Exit → Act → World → Prop} {E : Exit} {ρ ρ' : Env} {m m' : List HP} (h : Cov ρ ρ') (e : Ent m m') (k : EX K Q E ρ' m') : EX K Q E ρ m := ⟨fun a w hf hm => k.run a w (hf.cov h) (hm.ent e)⟩
set_option maxHeartbeats 8000000 in
set_option maxRecDepth 100000 in
theorem comp_one {Q : Exit → Act → World → Prop} (W : World) (G : Rd) (q : Option Addr) (pl c : Nat) (qs : Option Addr) (ks : Nat) (Bs : List Int) (hSt : Row encI 1 G qs ks Bs) (hbl : Bs.length = pl + 1) (hpl : pl ≤ 100000) (i j : Nat) (hi : i < pl) (s : Nat) (hs : Bs[i]? = some ((s : Nat) : Int)) (hs1 : s ≤ 100000) (x : InsM) (b16 : Nat) (o : Option Addr) (oc : Nat) (ys : List InsM) (hyl : ys.length ≤ 100000) (ny : Nat) (t : Int) (ny' : Nat)
    (hcase : (x.op = 9 ∧ 0 ≤ x.dst ∧ x.dst ≤ 100000 ∧ t = x.dst + (s : Nat) ∧ ny' = ny) ∨ (x.op = 10 ∧ x.dst = -2 ∧ t = (s : Nat) ∧ ny' = ny) ∨ (x.op = 10 ∧ x.dst ≠ -2 ∧ Bs[ny + 1]? = some t ∧ ny + 1 ≤ pl ∧ ny' = ny + 1) ∨ (x.op ≠ 9 ∧ x.op ≠ 10 ∧ t = x.dst ∧ ny' = ny))
    (hk : ∀ o' oc', EX ⟨148, [], W, []⟩ Q .normal [(7, .slice q pl c), (10, .slice qs (pl + 1) ks), (12, .slice o' (ys.length + 1) oc'), (13, .int .i64 ((ny' : Int) + 1)), (14, .int .i64 (i : Nat)), (15, .int .i64 (j : Nat))] [ro W [] G, sl 72 8 o' (ys.length + 1) oc' ((ys ++ [setM t x]).flatMap insE)]) :
    CW Tryz.prog ⟨148, [], W, []⟩ Q (cP [1, 1, 1, 1, 1, 1, 1, 1, 1, 1, 1, 1, 0, 1, 0, 0, 1, 0, 0, 1, 0, 0, 1, 0, 0, 1] ccode) [(7, .slice q pl c), (10, .slice qs (pl + 1) ks), (12, .slice o ys.length oc), (13, .int .i64 ((ny : Int) + 1)), (14, .int .i64 (i : Nat)), (15, .int .i64 (j : Nat)), (16, .pointer (some ⟨b16, 0, none⟩))] [inB b16 x, ro W [] G, sl 72 8 o ys.length oc (ys.flatMap insE)] := by
  obtain ⟨op, aop, af, ag, n, dst, nums, text⟩ := x
  rw [List.flatMap_append, List.flatMap_singleton] at hk
  dsimp only [setM] at hcase hk
  dsimp only [inB, insE]
  conv =>
    pattern cP _ _
    whnf
  rcases hcase with ⟨rfl, h1, h2, rfl, rfl⟩ | ⟨rfl, rfl, rfl, rfl⟩ | ⟨rfl, h1, h2, h3, rfl⟩ | ⟨h1, h2, rfl, rfl⟩
  · ((repeat' (first|refine zza ?_|refine zc9 ?_|refine zzb fun w hw => ?_|refine zzh fun _ => ?_|refine zzi fun _ _ => ?_|refine zzj (fun _ => ?_) fun _ => ?_)); (repeat' (refine CW_seq ?_; (repeat' (first|refine zza ?_|refine zc9 ?_|refine zzb fun w hw => ?_|refine zzh fun _ => ?_|refine zzi fun _ _ => ?_|refine zzj (fun _ => ?_) fun _ => ?_)))))
    refine WB_op rfl rfl (y_indexN (i := i) rfl rfl (Row.some_lt (i := i) hSt (by omega)) (by omega)) ?_
    refine WB_op rfl rfl (y_load rfl (rd_row (enc := encI) hSt zpk hs)) ?_
    ((repeat' (first|refine zza ?_|refine zc9 ?_|refine zzb fun w hw => ?_|refine zzh fun _ => ?_|refine zzi fun _ _ => ?_|refine zzj (fun _ => ?_) fun _ => ?_)); (repeat' (refine CW_seq ?_; (repeat' (first|refine zza ?_|refine zc9 ?_|refine zzb fun w hw => ?_|refine zzh fun _ => ?_|refine zzi fun _ _ => ?_|refine zzj (fun _ => ?_) fun _ => ?_)))))
    rename_i q9 c9
    exact EX_cov zcov zent (hk q9 c9)
  · ((repeat' (first|refine zza ?_|refine zc9 ?_|refine zzb fun w hw => ?_|refine zzh fun _ => ?_|refine zzi fun _ _ => ?_|refine zzj (fun _ => ?_) fun _ => ?_)); (repeat' (refine CW_seq ?_; (repeat' (first|refine zza ?_|refine zc9 ?_|refine zzb fun w hw => ?_|refine zzh fun _ => ?_|refine zzi fun _ _ => ?_|refine zzj (fun _ => ?_) fun _ => ?_)))))
    refine WL_op rfl rfl (y_indexN (i := i) rfl rfl (Row.some_lt (i := i) hSt (by omega)) (by omega)) ?_
    refine WL_op rfl rfl (y_load rfl (rd_row (enc := encI) hSt zpk hs)) ?_
    ((repeat' (first|refine zza ?_|refine zc9 ?_|refine zzb fun w hw => ?_|refine zzh fun _ => ?_|refine zzi fun _ _ => ?_|refine zzj (fun _ => ?_) fun _ => ?_)); (repeat' (refine CW_seq ?_; (repeat' (first|refine zza ?_|refine zc9 ?_|refine zzb fun w hw => ?_|refine zzh fun _ => ?_|refine zzi fun _ _ => ?_|refine zzj (fun _ => ?_) fun _ => ?_)))))
    rename_i q9 c9
    exact EX_cov zcov zent (hk q9 c9)
  · ((repeat' (first|refine zza ?_|refine zc9 ?_|refine zzb fun w hw => ?_|refine zzh fun _ => ?_|refine zzi fun _ _ => ?_|refine zzj (fun _ => ?_) fun _ => ?_)); (repeat' (refine CW_seq ?_; (repeat' (first|refine zza ?_|refine zc9 ?_|refine zzb fun w hw => ?_|refine zzh fun _ => ?_|refine zzi fun _ _ => ?_|refine zzj (fun _ => ?_) fun _ => ?_)))))
    refine WL_op rfl rfl (y_indexN (i := ny + 1) rfl rfl (Row.some_lt (i := ny + 1) hSt (by omega)) (by omega)) ?_
    refine WL_op rfl rfl (y_load rfl (rd_row (enc := encI) hSt zpk h2)) ?_
    ((repeat' (first|refine zza ?_|refine zc9 ?_|refine zzb fun w hw => ?_|refine zzh fun _ => ?_|refine zzi fun _ _ => ?_|refine zzj (fun _ => ?_) fun _ => ?_)); (repeat' (refine CW_seq ?_; (repeat' (first|refine zza ?_|refine zc9 ?_|refine zzb fun w hw => ?_|refine zzh fun _ => ?_|refine zzi fun _ _ => ?_|refine zzj (fun _ => ?_) fun _ => ?_)))))
    rename_i q9 c9
    exact EX_cov zcov zent (hk q9 c9)
  · ((repeat' (first|refine zza ?_|refine zc9 ?_|refine zzb fun w hw => ?_|refine zzh fun _ => ?_|refine zzi fun _ _ => ?_|refine zzj (fun _ => ?_) fun _ => ?_)); (repeat' (refine CW_seq ?_; (repeat' (first|refine zza ?_|refine zc9 ?_|refine zzb fun w hw => ?_|refine zzh fun _ => ?_|refine zzi fun _ _ => ?_|refine zzj (fun _ => ?_) fun _ => ?_)))))
    rename_i q9 c9
    exact EX_cov zcov zent (hk q9 c9)
set_option maxHeartbeats 8000000 in
set_option maxRecDepth 100000 in
theorem comp_lay (C : List Ins) (q : Option Addr) (c : Nat) (ps : List PX) (qs : Option Addr) (ks : Nat) (G0 G : Rd) (W : World) (g0 : Rd.grow W G0 G) (hPr : Row pcE 2 G q c ps) (hSt : Row encI 1 G qs ks (bnds (ps.map cod) ps.length)) (hP : ∀ z ∈ ps, PcR (cod z) z.2 z.1 G) (hL : LayI C [] (spread 0 (ps.map cod)) (begs 0 (ps.map cod)).tail) (hT : total (ps.map cod) ≤ 90000) (hp0 : ps.length ≤ 90000) (hgo : ∀ c ∈ ps.map cod, ToOk c) :
    CW Tryz.prog ⟨148, [], W, []⟩ (QBody Tryz.prog Tryz.f7 (Tells compV (CompR 0 C) G0 W)) (cP [1, 1, 1, 1, 1, 1, 1, 1, 1, 1] ccode) [(7, .slice q ps.length c), (10, .slice qs (ps.length + 1) ks)] [ro W [] G] := by
  conv =>
    pattern cP _ _
    whnf
  have hC : C.length = total (ps.map cod) := by
    have := congrArg List.length hL.eq
    rw [List.nil_append, layL_len, spread_len] at this
    omega
  ((repeat' (first|refine zza ?_|refine zc9 ?_|refine zzb fun w hw => ?_|refine zzh fun _ => ?_|refine zzi fun _ _ => ?_|refine zzj (fun _ => ?_) fun _ => ?_)); (repeat' (refine CW_seq ?_; (repeat' (first|refine zza ?_|refine zc9 ?_|refine zzb fun w hw => ?_|refine zzh fun _ => ?_|refine zzi fun _ _ => ?_|refine zzj (fun _ => ?_) fun _ => ?_)))))
  refine CW_loopK [(7,_),(10,_)] zcov (fun x : Nat × List InsM × (Option Addr × Nat) × Nat => [(14, .int .i64 (x.1 : Int)), (13, .int .i64 ((x.2.2.2 : Int) + 1)), (12, .slice x.2.2.1.1 x.2.1.length x.2.2.1.2)]) (fun x => [ro W [] G, sl 72 8 x.2.2.1.1 x.2.1.length x.2.2.1.2 (x.2.1.flatMap insE)]) (fun x => x.1 ≤ ps.length ∧ (∀ y ∈ x.2.1, InsG G y) ∧ LayI C (x.2.1.map InsM.ins) (spread (total ((ps.map cod).take x.1)) ((ps.map cod).drop x.1)) ((begs 0 (ps.map cod)).tail.drop x.2.2.2)) (fun x => ps.length - x.1) (0, [], (none, 0), 0) ⟨Nat.zero_le _, by simp, by simpa [total] using hL⟩ zcov (Ent.cons zpk (Ent.nilown (e := 72) (sz := 8) Ent.nil)) ?_
  rintro ⟨i, xs, ⟨o, oc⟩, nx⟩ ⟨hi, hx, hl⟩
  dsimp only at hi hx hl ⊢
  by_cases hlt : i < ps.length
  · obtain ⟨z, hz⟩ : ∃ z, ps[i]? = some z := ⟨ps[i], by simp [hlt]⟩
    obtain ⟨s, hs⟩ : ∃ s, s = total ((ps.map cod).take i) := ⟨_, rfl⟩
    obtain ⟨R, hR⟩ : ∃ R, R = spread (s + (cod z).length) ((ps.map cod).drop (i + 1)) := ⟨_, rfl⟩
    obtain ⟨T, hTs⟩ : ∃ T, T = (begs 0 (ps.map cod)).tail := ⟨_, rfl⟩
    have hcz : (ps.map cod)[i]? = some (cod z) := by rw [List.getElem?_map, hz]; rfl
    rw [← hs, spread_drop hcz, ← hR, ← hTs] at hl
    have hzP := hP z (List.mem_of_getElem? hz)
    have hzG := hgo (cod z) (List.mem_of_getElem? hcz)
    have hzl : z.1.1.length = (cod z).length := (List.length_map _).symm
    have hct : total ((ps.map cod).take (i + 1)) = s + (cod z).length := by rw [hs]; exact total_take hcz
    have htl : total ((ps.map cod).take (i + 1)) ≤ total (ps.map cod) := total_take_le _ _
    have hsi : (bnds (ps.map cod) ps.length)[i]? = some ((s : Nat) : Int) := by
      rw [bnds_get _ (Nat.le_of_lt hlt), hs]
    have hsk : ∀ k t, T[k]? = some t → k + 1 ≤ ps.length ∧ (bnds (ps.map cod) ps.length)[k + 1]? = some t := fun k t ht => by
      rw [hTs, List.getElem?_tail] at ht
      have hk1 := (List.getElem?_eq_some_iff.1 ht).1
      rw [begs_len, List.length_map] at hk1
      rw [begs_get 0 _ (k + 1) (by rw [List.length_map]; exact hk1), Nat.zero_add] at ht
      exact ⟨by omega, by rw [bnds_get _ (by omega), ← ht]⟩
    have hbl := bnds_len (ps.map cod) ps.length
    have hrow := hzP.code
    have hgood := hzP.good
    have hend : R = spread (total ((ps.map cod).take (i + 1))) ((ps.map cod).drop (i + 1)) := by rw [hR, hct]
    rw [hct] at htl
    rw [hTs] at hl
    have hsk' := hsk
    rw [hTs] at hsk'
    clear hP hL hgo hcz hs hR hTs hzP hct hsk T
    obtain ⟨Bs, hBs⟩ : ∃ Bs, Bs = bnds (ps.map cod) ps.length := ⟨_, rfl⟩
    rw [← hBs] at hsi hsk' hSt hbl
    obtain ⟨TT, hTT⟩ : ∃ TT, TT = total (ps.map cod) := ⟨_, rfl⟩
    rw [← hTT] at hC hT htl
    clear hBs hTT
    ((repeat' (first|refine zza ?_|refine zc9 ?_|refine zzb fun w hw => ?_|refine zzh fun _ => ?_|refine zzi fun _ _ => ?_|refine zzj (fun _ => ?_) fun _ => ?_)); (repeat' (refine CW_seq ?_; (repeat' (first|refine zza ?_|refine zc9 ?_|refine zzb fun w hw => ?_|refine zzh fun _ => ?_|refine zzi fun _ _ => ?_|refine zzj (fun _ => ?_) fun _ => ?_)))))
    refine CW_loopK [(7,_),(10,_),(14,_)] zcov (fun x : Nat × List InsM × (Option Addr × Nat) × Nat => [(15, .int .i64 (x.1 : Int)), (13, .int .i64 ((x.2.2.2 : Int) + 1)), (12, .slice x.2.2.1.1 x.2.1.length x.2.2.1.2)]) (fun x => [ro W [] G, sl 72 8 x.2.2.1.1 x.2.1.length x.2.2.1.2 (x.2.1.flatMap insE)]) (fun x => x.1 ≤ z.1.1.length ∧ (∀ y ∈ x.2.1, InsG G y) ∧ LayI C (x.2.1.map InsM.ins) (at_ s ((cod z).drop x.1) ++ R) ((begs 0 (ps.map cod)).tail.drop x.2.2.2)) (fun x => z.1.1.length - x.1) (0, xs, (o, oc), nx) ⟨Nat.zero_le _, hx, by simpa using hl⟩ zcov zent ?_
    clear hl hx
    rintro ⟨j, ys, ⟨o2, oc2⟩, ny⟩ ⟨hj, hy, hl⟩
    dsimp only at hj hy hl ⊢
    have hyl : ys.length ≤ C.length := by
      have := congrArg List.length hl.eq
      rw [List.length_append, List.length_map] at this
      omega
    by_cases hjt : j < z.1.1.length
    · obtain ⟨x, hxj⟩ : ∃ x, z.1.1[j]? = some x := ⟨z.1.1[j], by simp [hjt]⟩
      have hcj : (cod z)[j]? = some x.ins := by unfold cod; rw [List.getElem?_map, hxj]; rfl
      have hR2 : at_ s ((cod z).drop j) ++ R = (x.ins, s) :: (at_ s ((cod z).drop (j + 1)) ++ R) := by rw [drop_cons_q hcj]; rfl
      rw [hR2] at hl
      have hgx := hgood x (List.mem_of_getElem? hxj)
      obtain ⟨t, ny', hcase, hl2⟩ : ∃ t ny', ((x.op = 9 ∧ 0 ≤ x.dst ∧ x.dst ≤ 100000 ∧ t = x.dst + (s : Nat) ∧ ny' = ny) ∨ (x.op = 10 ∧ x.dst = -2 ∧ t = (s : Nat) ∧ ny' = ny) ∨ (x.op = 10 ∧ x.dst ≠ -2 ∧ Bs[ny + 1]? = some t ∧ ny + 1 ≤ ps.length ∧ ny' = ny + 1) ∨ (x.op ≠ 9 ∧ x.op ≠ 10 ∧ t = x.dst ∧ ny' = ny)) ∧ LayI C ((ys ++ [setM t x]).map InsM.ins) (at_ s ((cod z).drop (j + 1)) ++ R) ((begs 0 (ps.map cod)).tail.drop ny') := by
        have hm : ∀ t, (ys ++ [setM t x]).map InsM.ins = ys.map InsM.ins ++ [setTo t x.ins] := fun t => by rw [List.map_append]; rfl
        by_cases h9 : x.op = 9
        · have hto := hzG x.ins (List.mem_of_getElem? hcj) h9
          have hl2 := hl.other (not_mark (i := x.ins) (show ¬ x.op = 10 by omega))
          refine ⟨x.dst + (s : Nat), ny, .inl ⟨h9, hto.1, hto.2, rfl, rfl⟩, ?_⟩
          rw [hm]
          have e : lay1 x.ins s 0 = setTo (x.dst + (s : Nat)) x.ins := if_pos h9
          rw [← e]
          exact hl2
        by_cases h10 : x.op = 10
        · by_cases h2 : x.dst = -2
          · have hl2 := hl.other (show isM x.ins = false from decide_eq_false fun k => k.2 h2)
            refine ⟨(s : Nat), ny, .inr (.inl ⟨h10, h2, rfl, rfl⟩), ?_⟩
            rw [hm]
            have e : lay1 x.ins s 0 = setTo (s : Nat) x.ins := (if_neg h9).trans ((if_pos h10).trans (if_pos h2))
            rw [← e]
            exact hl2
          · obtain ⟨t, ts', hts, hl2⟩ := hl.mark (show isM x.ins = true from decide_eq_true ⟨h10, h2⟩)
            have htk : (begs 0 (ps.map cod)).tail[ny]? = some t := by
              have := congrArg List.head? hts
              rw [List.head?_drop, List.head?_cons] at this
              exact this
            have htd : ts' = (begs 0 (ps.map cod)).tail.drop (ny + 1) := by
              have := congrArg List.tail hts
              rw [List.tail_drop, List.tail_cons] at this
              exact this.symm
            obtain ⟨k1, k2⟩ := hsk' _ _ htk
            refine ⟨t, ny + 1, .inr (.inr (.inl ⟨h10, h2, k2, k1, rfl⟩)), ?_⟩
            rw [hm, ← htd]
            have e : lay1 x.ins s t = setTo t x.ins := (if_neg h9).trans ((if_pos h10).trans (if_neg h2))
            rw [← e]
            exact hl2
        · have hl2 := hl.other (not_mark (i := x.ins) h10)
          refine ⟨x.dst, ny, .inr (.inr (.inr ⟨h9, h10, rfl, rfl⟩)), ?_⟩
          rw [hm]
          have e : lay1 x.ins s 0 = setTo x.dst x.ins := (if_neg h9).trans (if_neg h10)
          rw [← e]
          exact hl2
      have hyG : ∀ y ∈ ys ++ [setM t x], InsG G y := fun y hy' => by
        rcases List.mem_append.1 hy' with hy' | hy'
        · exact hy y hy'
        · rw [List.mem_singleton.1 hy']
          exact setM_good hgx
      clear hsk' hend hzG hgood hl hy hgx hcj hR2
      have hnl : ny' ≤ ps.length + ny := by omega
      repeat' (first | (refine CW_cov zcov (CW_ent (Ent.consK (k := Ent.cons zpk (Ent.cons zpk Ent.nil)) .here) (comp_one W G q ps.length c qs ks Bs hSt hbl (by omega) i j hlt s hsi (by omega) x _ o2 oc2 ys (by omega) ny t ny' hcase (fun o' oc' => ?_)))) | refine zza ?_ | refine zzh fun _ => ?_)
      rw [show ys.length + 1 = (ys ++ [setM t x]).length by simp]
      exact EX_loop' (j + 1, ys ++ [setM t x], (o', oc'), ny') ⟨zcov, zent, by dsimp only; omega, by dsimp only; omega, hyG, hl2⟩
    · have hjl : (cod z).drop j = [] := List.drop_eq_nil_of_le (by omega)
      rw [hjl, show at_ s [] ++ R = R from rfl, hend] at hl
      clear hsk' hend hzG hgood hjl
      ((repeat' (first|refine zza ?_|refine zc9 ?_|refine zzb fun w hw => ?_|refine zzh fun _ => ?_|refine zzi fun _ _ => ?_|refine zzj (fun _ => ?_) fun _ => ?_)); (repeat' (refine CW_seq ?_; (repeat' (first|refine zza ?_|refine zc9 ?_|refine zzb fun w hw => ?_|refine zzh fun _ => ?_|refine zzi fun _ _ => ?_|refine zzj (fun _ => ?_) fun _ => ?_)))))
      exact EX_loop' (i + 1, ys, (o2, oc2), ny) ⟨zcov, zent, by dsimp only; omega, by dsimp only; omega, hy, hl⟩
  · have hil : i = ps.length := by omega
    subst hil
    rw [List.drop_eq_nil_of_le (by simp)] at hl
    have hC2 := hl.stop
    clear hP hL hgo hPr hSt hl
    ((repeat' (first|refine zza ?_|refine zc9 ?_|refine zzb fun w hw => ?_|refine zzh fun _ => ?_|refine zzi fun _ _ => ?_|refine zzj (fun _ => ?_) fun _ => ?_)); (repeat' (refine CW_seq ?_; (repeat' (first|refine zza ?_|refine zc9 ?_|refine zzb fun w hw => ?_|refine zzh fun _ => ?_|refine zzi fun _ _ => ?_|refine zzj (fun _ => ?_) fun _ => ?_)))))
    obtain ⟨G1, g1, r1, hh⟩ := Holds.toRo (α := InsM) (enc := insE) (sz := 8) (fun _ => rfl) (by decide) (xs := xs) (e := 72) (n := xs.length) (p := o) (c := oc) (r := []) (hw.ent (Ent.cons zpk (Ent.cons zpk Ent.nil))) (fun _ _ => by simp)
    exact ⟨(0, xs, o, oc), G1, ⟨rfl, hC2, fun y hy => (hx y hy).mono g1.1, r1⟩, rfl, Rd.grow_tr g0 g1, hh.ent (Ent.cons .here Ent.nil)⟩
end Go.Proofs.YtngeooflfkpikaaGreatDoor
