/-
  ravelinref4: written, walked.
-/
import Derived.Test.YtngeooflfkpikaaGreatDoorYGo
import Derived.Test.YtngeooflfkpikaaGreatDoorYRefPcv
namespace Go.Proofs.YtngeooflfkpikaaGreatDoor
open Go.RowKit
theorem pcsG_le : ∀ (es : List Ex) (o : Nat), (pcsG o es).length ≤ (es.flatMap Ex.flat).length + es.length
  | [], _ => Nat.zero_le _
  | [e], _ => by
    have := (Ex.pcs_le e 0).1
    simp only [pcsG, List.flatMap_cons, List.flatMap_nil, List.length_append, List.length_cons, List.length_nil]
    omega
  | c :: v :: r, o => by
    have h1 := (Ex.pcs_le c 0).1
    have h2 := (Ex.pcs_le v 0).1
    have h3 := pcsG_le r (o + c.pcs.length + 1 + v.pcs.length + 1)
    simp only [pcsG, List.flatMap_cons, List.length_append, List.length_cons]
    omega
theorem wsF_le : ∀ (es : List Ex) (k : Nat), (wsF k es).length ≤ (es.flatMap Ex.flat).length
  | [], _ => Nat.zero_le _
  | e :: r, k => by
    have h1 := (Ex.pcs_le e k).2
    have h2 := wsF_le r (k + e.flat.length)
    have h3 : (wsE k e).length = (e.waits 0 k).length := by unfold wsE; rw [List.length_map]
    rw [wsF, List.flatMap_cons, List.length_append, List.length_append]
    omega
theorem ref_joinT (a : List Ins) (i : Ins) (ws : List (Int × Int)) (x y : PcX) (G : Rd) (w : World) (hS : Rd.sub G [] w) (ha : PcR a ws x G) (hb : PcR [i] [] y G) (hl : a.length ≤ 100000) (hl2 : ws.length ≤ 100000) :
    Calls Tryz.prog 22 #[pcV ws x, pcV [] y] w (Tells (pcV ws) (PcR (a ++ [i]) ws) G w) := by
  have := ref_joinPieces a [i] ws [] x y G w hS ha hb (by simp; omega) (by simp; omega)
  rw [List.append_nil] at this
  exact this
set_option maxHeartbeats 8000000 in
set_option maxRecDepth 100000 in
theorem ref_written (p : Option Addr) (c : Nat) (L : List NodM) (es : List Ex) (k d N : Nat) (hes : ∀ e ∈ es, e.ok d) (hlen : es.length = 2 * N + 1) (rest : List Nod) (hdr : (L.map NodM.nod).drop k = es.flatMap Ex.flat ++ rest) (hL : L.length ≤ 400) (hk : k ≤ L.length) (G : Rd) (W : World) (hS : Rd.sub G [] W) (hR : Row nodE 7 G p c L) (hB : ∀ x ∈ L, NodG G x) :
    Calls Tryz.prog 25 #[.slice p L.length c, .agg #[.int .i64 (k : Nat), .int .i64 (N : Nat)]] W (Tells (pcV (wsF k es)) (PcR (pcsG 0 es) (wsF k es)) G W) := by
  refine enterR (args := [_, _]) (m := []) (F := []) hS rfl Tryz.func25 rfl Tryz.ntmps25 (by simp) ?_
  clear hS
  have hfl : es.length ≤ 400 := by
    have h1 := congrArg List.length hdr
    rw [List.length_drop, List.length_map, List.length_append] at h1
    have h2 := le_endL 0 es
    unfold endL at h2
    omega
  have hsp : es = es.take (2 * N) ++ es.drop (2 * N) := (List.take_append_drop _ _).symm
  have hdrT : (L.map NodM.nod).drop k = (es.take (2 * N)).flatMap Ex.flat ++ ((es.drop (2 * N)).flatMap Ex.flat ++ rest) := by
    rw [hdr, ← List.append_assoc, ← List.flatMap_append, ← hsp]
  have hends := fun (W' : World) hS => ref_ends p c L (es.take (2 * N)) k d (fun e he => hes e (List.mem_of_mem_take he)) _ hdrT hL hk G W' hS hR hB (2 * (N : Int)) (by rw [List.length_take]; omega)
  clear hsp hdrT
  ((repeat' (first|refine zza ?_|refine zc9 ?_|refine zzb fun w hw => ?_|refine zzh fun _ => ?_|refine zzi fun _ _ => ?_|refine zzj (fun _ => ?_) fun _ => ?_)); (repeat' (refine CW_seq ?_; (repeat' (first|refine zza ?_|refine zc9 ?_|refine zzb fun w hw => ?_|refine zzh fun _ => ?_|refine zzi fun _ _ => ?_|refine zzj (fun _ => ?_) fun _ => ?_)))))
  rename_i b3 b4
  refine WL_callT (r := [pcB b4 (.slice none 0 0) (.slice none 0 0), blk b3 76 #[.int .i64 (k : Nat), .int .i64 (N : Nat)]]) (Ent.cons zpk (Ent.cons zpk (Ent.cons zpk Ent.nil))) rfl rfl rfl hends ?_
  intro x1 G1 h1 g1
  clear hends
  ((repeat' (first|refine zza ?_|refine zc9 ?_|refine zzb fun w hw => ?_|refine zzh fun _ => ?_|refine zzi fun _ _ => ?_|refine zzj (fun _ => ?_) fun _ => ?_)); (repeat' (refine CW_seq ?_; (repeat' (first|refine zza ?_|refine zc9 ?_|refine zzb fun w hw => ?_|refine zzh fun _ => ?_|refine zzi fun _ _ => ?_|refine zzj (fun _ => ?_) fun _ => ?_)))))
  rename_i b6
  refine CW_loopK [(0,_),(3,_),(4,_),(5,_),(6,_)] zcov (fun x : Nat × PcX × Rd × List Ins × List (Int × Int) => [(7, .int .i64 (x.1 : Int))]) (fun x => [blk b3 76 #[.int .i64 (k : Nat), .int .i64 (N : Nat)], pcB b4 (.slice none 0 0) (.slice none 0 0), pcB b6 (pvs x.2.1 x.2.2.2.2).1 (pvs x.2.1 x.2.2.2.2).2, ro W [] x.2.2.1]) (fun x => x.1 ≤ N ∧ PcR x.2.2.2.1 x.2.2.2.2 x.2.1 x.2.2.1 ∧ Rd.grow W G1 x.2.2.1 ∧ x.2.2.2.1 ++ pcsG x.2.2.2.1.length (es.drop (2 * x.1)) = pcsG 0 es ∧ x.2.2.2.2 ++ wsF (endL k (es.take (2 * x.1))) (es.drop (2 * x.1)) = wsF k es) (fun x => N - x.1) (0, ([], (none, 0), (none, 0)), G1, [], []) ⟨Nat.zero_le _, ⟨rfl, by simp, Row.nil _ _ _, Row.nil _ _ _⟩, Rd.grow_refl _ _, rfl, by simp [endL]⟩ zcov zent ?_
  rintro ⟨i, xs, Gi, co, ws⟩ ⟨hi, hp, hg, hco, hws⟩
  dsimp only at hi hp hg hco hws ⊢
  by_cases hlt : i < N
  · obtain ⟨e, he⟩ : ∃ e, es[2 * i]? = some e := ⟨es[2 * i]'(by omega), by simp [show 2 * i < es.length by omega]⟩
    obtain ⟨v, hv⟩ : ∃ v, es[2 * i + 1]? = some v := ⟨es[2 * i + 1]'(by omega), by simp [show 2 * i + 1 < es.length by omega]⟩
    have hat : ∀ j u, es[j]? = some u → (L.map NodM.nod).drop (endL k (es.take j)) = u.flat ++ ((es.drop (j + 1)).flatMap Ex.flat ++ rest) := fun j u hu => by
      have h1 := hdr
      rw [← List.take_append_drop j es, drop_cons_q hu, List.flatMap_append, List.flatMap_cons, List.append_assoc, List.append_assoc] at h1
      unfold endL
      rw [← List.drop_drop, h1, List.drop_left]
    have hposj : ∀ j u, es[j]? = some u → j < 2 * N → (posE k (es.take (2 * N)))[j]? = some ((endL k (es.take j) : Nat) : Int) := fun j u hu hj => by
      rw [posE_get (by rw [List.length_take]; omega), List.take_take, Nat.min_eq_left (by omega)]
    have hge := hposj _ _ he (by omega)
    have hgv := hposj _ _ hv (by omega)
    have hce := fun (G' : Rd) (hg : Rd.grow W G G') (W' : World) hS => pcs_ex e p c L (endL k (es.take (2 * i))) d _ G' W' (hes e (List.mem_of_getElem? he)) (hat _ _ he) hL (hR.mono hg.1) (fun x hx => (hB x hx).mono hg.1) hS
    have hcv := fun (G' : Rd) (hg : Rd.grow W G G') (W' : World) hS => pcs_ex v p c L (endL k (es.take (2 * i + 1))) d _ G' W' (hes v (List.mem_of_getElem? hv)) (hat _ _ hv) hL (hR.mono hg.1) (fun x hx => (hB x hx).mono hg.1) hS
    have hw1 := wsF_step he hws
    have hw2 := wsF_step hv hw1
    have hc2 := pcsG_step he hv hco
    have htl : (es.take (2 * N)).length = 2 * N := by rw [List.length_take]; omega
    have hle := pcsG_le es 0
    have hlw := wsF_le es k
    rw [← hc2] at hle
    rw [← hw2] at hlw
    simp only [List.length_append, List.length_cons, List.length_nil] at hle hlw
    have h4 : (es.flatMap Ex.flat).length ≤ 400 := by
      have h1 := congrArg List.length hdr
      rw [List.length_drop, List.length_map, List.length_append] at h1
      omega
    clear hes hdr hR hB hat hposj hw1 hws hco
    generalize hE : endL k (es.take (2 * i)) = E at hge hce hw2 hlw
    generalize hV : endL k (es.take (2 * i + 1)) = V at hgv hcv hw2 hlw
    have hxl := hp.len
    ((repeat' (first|refine zza ?_|refine zc9 ?_|refine zzb fun w hw => ?_|refine zzh fun _ => ?_|refine zzi fun _ _ => ?_|refine zzj (fun _ => ?_) fun _ => ?_)); (repeat' (refine CW_seq ?_; (repeat' (first|refine zza ?_|refine zc9 ?_|refine zzb fun w hw => ?_|refine zzh fun _ => ?_|refine zzi fun _ _ => ?_|refine zzj (fun _ => ?_) fun _ => ?_)))))
    refine WL_op rfl rfl (y_indexN (i := 2 * i) rfl rfl (Row.some_lt (i := 2 * i) h1 (by rw [posE_len]; omega)) (by omega)) ?_
    refine WL_op rfl rfl (y_load rfl (rd_row (enc := encI) (h1.mono hg.1) zpk hge)) ?_
    refine WL_callT (r := [blk b3 76 #[.int .i64 (k : Nat), .int .i64 (N : Nat)], pcB b4 (.slice none 0 0) (.slice none 0 0), pcB b6 (pvs xs ws).1 (pvs xs ws).2]) (Ent.cons zpk (Ent.cons zpk (Ent.cons zpk (Ent.cons zpk Ent.nil)))) rfl rfl rfl (fun W' hS => hce Gi (Rd.grow_tr g1 hg) W' hS) ?_
    clear hce
    intro y1 Ga ha ga
    have hy1 := ha.len
    ((repeat' (first|refine zza ?_|refine zc9 ?_|refine zzb fun w hw => ?_|refine zzh fun _ => ?_|refine zzi fun _ _ => ?_|refine zzj (fun _ => ?_) fun _ => ?_)); (repeat' (refine CW_seq ?_; (repeat' (first|refine zza ?_|refine zc9 ?_|refine zzb fun w hw => ?_|refine zzh fun _ => ?_|refine zzi fun _ _ => ?_|refine zzj (fun _ => ?_) fun _ => ?_)))))
    rename_i b8
    refine WL_ent (m' := [pcB b8 (pvs y1 (wsE E e)).1 (pvs y1 (wsE E e)).2, blk b3 76 #[.int .i64 (k : Nat), .int .i64 (N : Nat)], pcB b4 (.slice none 0 0) (.slice none 0 0), pcB b6 (pvs xs ws).1 (pvs xs ws).2, ro W [] Ga]) (Ent.consK (k := (Ent.cons zpk (Ent.cons zpk (Ent.cons zpk (Ent.cons zpk Ent.nil))))) zpk) ?_
    refine WL_op rfl rfl (y_indexN (i := 2 * i + 1) rfl rfl (Row.some_lt (i := 2 * i + 1) h1 (by rw [posE_len]; omega)) (by omega)) ?_
    refine WL_op rfl rfl (y_load rfl (rd_row (enc := encI) (h1.mono (Rd.le_trans hg.1 ga.1)) zpk hgv)) ?_
    refine WL_callT (r := [pcB b8 (pvs y1 (wsE E e)).1 (pvs y1 (wsE E e)).2, blk b3 76 #[.int .i64 (k : Nat), .int .i64 (N : Nat)], pcB b4 (.slice none 0 0) (.slice none 0 0), pcB b6 (pvs xs ws).1 (pvs xs ws).2]) (Ent.cons zpk (Ent.cons zpk (Ent.cons zpk (Ent.cons zpk (Ent.cons zpk Ent.nil))))) rfl rfl rfl (fun W' hS => hcv Ga (Rd.grow_tr g1 (Rd.grow_tr hg ga)) W' hS) ?_
    clear hcv
    intro y2 Gb hb gb
    have hy2 := hb.len
    refine zzh fun b9 => ?_
    refine zza ?_
    refine WL_ent (m' := [pcB b9 (pvs y2 (wsE V v)).1 (pvs y2 (wsE V v)).2, pcB b8 (pvs y1 (wsE E e)).1 (pvs y1 (wsE E e)).2, blk b3 76 #[.int .i64 (k : Nat), .int .i64 (N : Nat)], pcB b4 (.slice none 0 0) (.slice none 0 0), pcB b6 (pvs xs ws).1 (pvs xs ws).2, ro W [] Gb]) (Ent.consK (k := (Ent.cons zpk (Ent.cons zpk (Ent.cons zpk (Ent.cons zpk (Ent.cons zpk Ent.nil)))))) zpk) ?_
    have hj1 : (co ++ e.pcs ++ [testI ((co.length + e.pcs.length + 1 + v.pcs.length + 1 : Nat) : Int)]).length + v.pcs.length ≤ 100000000 := by simp only [List.length_append, List.length_cons, List.length_nil]; omega
    have hj2 : (ws ++ wsE E e).length + (wsE V v).length ≤ 100000000 := by simp only [List.length_append]; omega
    clear hge hgv he hv h1
    ((repeat' (first|refine zza ?_|refine zc9 ?_|refine zzb fun w hw => ?_|refine zzh fun _ => ?_|refine zzi fun _ _ => ?_|refine zzj (fun _ => ?_) fun _ => ?_)); (repeat' (refine CW_seq ?_; (repeat' (first|refine zza ?_|refine zc9 ?_|refine zzb fun w hw => ?_|refine zzh fun _ => ?_|refine zzi fun _ _ => ?_|refine zzj (fun _ => ?_) fun _ => ?_)))))
    refine WL_callT (r := [pcB b9 (pvs y2 (wsE V v)).1 (pvs y2 (wsE V v)).2, pcB b8 (pvs y1 (wsE E e)).1 (pvs y1 (wsE E e)).2, blk b3 76 #[.int .i64 (k : Nat), .int .i64 (N : Nat)], pcB b4 (.slice none 0 0) (.slice none 0 0), pcB b6 (pvs xs ws).1 (pvs xs ws).2]) (Ent.cons zpk (Ent.cons zpk (Ent.cons zpk (Ent.cons zpk (Ent.cons zpk (Ent.cons zpk Ent.nil)))))) rfl rfl rfl (fun W' hS => ref_joinPieces co e.pcs ws (wsE E e) xs y1 Gb W' hS (hp.mono (Rd.le_trans ga.1 gb.1)) (ha.mono gb.1) (by omega) (by omega)) ?_
    intro x3 G3 h3 g3
    (repeat' ((fail_if_success refine zc8 ?_); (first|refine zza ?_|refine zzb fun w hw => ?_|refine zzh fun _ => ?_|refine zzi fun _ _ => ?_|refine zzj (fun _ => ?_) fun _ => ?_)))
    refine CW_perm 5 [0, 1, 2, 3, 4] [pcB b6 (pvs x3 (ws ++ wsE E e)).1 (pvs x3 (ws ++ wsE E e)).2] [] zcov (pm := [pcB b9 (pvs y2 (wsE V v)).1 (pvs y2 (wsE V v)).2, pcB b8 (pvs y1 (wsE E e)).1 (pvs y1 (wsE E e)).2, blk b3 76 #[.int .i64 (k : Nat), .int .i64 (N : Nat)], pcB b4 (.slice none 0 0) (.slice none 0 0), ro W [] G3]) (Ent.cons zpk (Ent.cons zpk (Ent.cons zpk (Ent.cons zpk (Ent.cons zpk (Ent.cons zpk Ent.nil)))))) (by kernel_rfl) (by decide +kernel) (by kernel_rfl) ?_
    (refine WP_op rfl rfl rfl zyi ?_)
    (refine WP_op rfl rfl rfl zyi ?_)
    (refine WP_op rfl rfl rfl zyi ?_)
    refine WP_callT (r := [pcB b9 (pvs y2 (wsE V v)).1 (pvs y2 (wsE V v)).2, pcB b8 (pvs y1 (wsE E e)).1 (pvs y1 (wsE E e)).2, blk b3 76 #[.int .i64 (k : Nat), .int .i64 (N : Nat)], pcB b4 (.slice none 0 0) (.slice none 0 0), pcB b6 (pvs x3 (ws ++ wsE E e)).1 (pvs x3 (ws ++ wsE E e)).2]) rfl (Ent.cons zpk (Ent.cons zpk (Ent.cons zpk (Ent.cons zpk (Ent.cons zpk (Ent.cons zpk Ent.nil)))))) (by decide +kernel) rfl rfl rfl (fun W' hS => ref_single ⟨9, 0, 0, 0, 0, (xs.1.length : Int) + (y1.1.length : Int) + 1 + (y2.1.length : Int) + 1, ⟨none, 0, []⟩, []⟩ G3 W' hS ⟨by simp, Row.nil _ _ _, by simp⟩) (fun G' _ => ⟨[ro W [] G', pcB b9 (pvs y2 (wsE V v)).1 (pvs y2 (wsE V v)).2, pcB b8 (pvs y1 (wsE E e)).1 (pvs y1 (wsE E e)).2, blk b3 76 #[.int .i64 (k : Nat), .int .i64 (N : Nat)], pcB b4 (.slice none 0 0) (.slice none 0 0)], (Ent.cons zpk (Ent.cons zpk (Ent.cons zpk (Ent.cons zpk (Ent.cons zpk (Ent.cons zpk Ent.nil))))))⟩) ?_
    intro x4 G4 h4' g4
    replace h4' : PcR [testI ((co.length + e.pcs.length + 1 + v.pcs.length + 1 : Nat) : Int)] [] x4 G4 := by
      have e1 : (xs.1.length : Int) + (y1.1.length : Int) + 1 + (y2.1.length : Int) + 1 = ((co.length + e.pcs.length + 1 + v.pcs.length + 1 : Nat) : Int) := by rw [hxl, hy1, hy2]; omega
      rw [e1] at h4'
      exact h4'
    refine WP_callT (r := [pcB b9 (pvs y2 (wsE V v)).1 (pvs y2 (wsE V v)).2, pcB b8 (pvs y1 (wsE E e)).1 (pvs y1 (wsE E e)).2, blk b3 76 #[.int .i64 (k : Nat), .int .i64 (N : Nat)], pcB b4 (.slice none 0 0) (.slice none 0 0), pcB b6 (pvs x3 (ws ++ wsE E e)).1 (pvs x3 (ws ++ wsE E e)).2]) rfl (Ent.cons zpk (Ent.cons zpk (Ent.cons zpk (Ent.cons zpk (Ent.cons zpk (Ent.cons zpk Ent.nil)))))) (by decide +kernel) rfl rfl rfl (fun W' hS => ref_joinT (co ++ e.pcs) (testI ((co.length + e.pcs.length + 1 + v.pcs.length + 1 : Nat) : Int)) (ws ++ wsE E e) x3 x4 G4 W' hS (h3.mono g4.1) h4' (by simp; omega) (by simp; omega)) (fun G' _ => ⟨[ro W [] G', pcB b9 (pvs y2 (wsE V v)).1 (pvs y2 (wsE V v)).2, pcB b8 (pvs y1 (wsE E e)).1 (pvs y1 (wsE E e)).2, blk b3 76 #[.int .i64 (k : Nat), .int .i64 (N : Nat)], pcB b4 (.slice none 0 0) (.slice none 0 0)], (Ent.cons zpk (Ent.cons zpk (Ent.cons zpk (Ent.cons zpk (Ent.cons zpk (Ent.cons zpk Ent.nil))))))⟩) ?_
    intro x5 G5 h5 g5
    refine WP_end ?_
    ((repeat' (first|refine zza ?_|refine zc9 ?_|refine zzb fun w hw => ?_|refine zzh fun _ => ?_|refine zzi fun _ _ => ?_|refine zzj (fun _ => ?_) fun _ => ?_)); (repeat' (refine CW_seq ?_; (repeat' (first|refine zza ?_|refine zc9 ?_|refine zzb fun w hw => ?_|refine zzh fun _ => ?_|refine zzi fun _ _ => ?_|refine zzj (fun _ => ?_) fun _ => ?_)))))
    refine WL_callT (r := [pcB b9 (pvs y2 (wsE V v)).1 (pvs y2 (wsE V v)).2, pcB b8 (pvs y1 (wsE E e)).1 (pvs y1 (wsE E e)).2, blk b3 76 #[.int .i64 (k : Nat), .int .i64 (N : Nat)], pcB b4 (.slice none 0 0) (.slice none 0 0), pcB b6 (pvs x5 (ws ++ wsE E e)).1 (pvs x5 (ws ++ wsE E e)).2]) (Ent.cons zpk (Ent.cons zpk (Ent.cons zpk (Ent.cons zpk (Ent.cons zpk (Ent.cons zpk Ent.nil)))))) rfl rfl rfl (fun W' hS => ref_joinPieces (co ++ e.pcs ++ [testI ((co.length + e.pcs.length + 1 + v.pcs.length + 1 : Nat) : Int)]) v.pcs (ws ++ wsE E e) (wsE V v) x5 y2 G5 W' hS h5 (hb.mono (Rd.le_trans g3.1 (Rd.le_trans g4.1 g5.1))) hj1 hj2) ?_
    intro x6 G6 h6 g6
    (repeat' ((fail_if_success refine zc8 ?_); (first|refine zza ?_|refine zzb fun w hw => ?_|refine zzh fun _ => ?_|refine zzi fun _ _ => ?_|refine zzj (fun _ => ?_) fun _ => ?_)))
    refine CW_perm 4 [0, 1, 2, 3] [pcB b6 (pvs x6 (ws ++ wsE E e ++ wsE V v)).1 (pvs x6 (ws ++ wsE E e ++ wsE V v)).2] [] zcov (pm := [pcB b9 (pvs y2 (wsE V v)).1 (pvs y2 (wsE V v)).2, pcB b8 (pvs y1 (wsE E e)).1 (pvs y1 (wsE E e)).2, blk b3 76 #[.int .i64 (k : Nat), .int .i64 (N : Nat)], pcB b4 (.slice none 0 0) (.slice none 0 0), ro W [] G6]) (Ent.cons zpk (Ent.cons zpk (Ent.cons zpk (Ent.cons zpk (Ent.cons zpk (Ent.cons zpk Ent.nil)))))) (by kernel_rfl) (by decide +kernel) (by kernel_rfl) ?_
    (refine WP_op rfl rfl rfl zyi ?_)
    (refine WP_op rfl rfl rfl zyi ?_)
    refine WP_callT (r := [pcB b9 (pvs y2 (wsE V v)).1 (pvs y2 (wsE V v)).2, pcB b8 (pvs y1 (wsE E e)).1 (pvs y1 (wsE E e)).2, blk b3 76 #[.int .i64 (k : Nat), .int .i64 (N : Nat)], pcB b4 (.slice none 0 0) (.slice none 0 0), pcB b6 (pvs x6 (ws ++ wsE E e ++ wsE V v)).1 (pvs x6 (ws ++ wsE E e ++ wsE V v)).2]) rfl (Ent.cons zpk (Ent.cons zpk (Ent.cons zpk (Ent.cons zpk (Ent.cons zpk (Ent.cons zpk Ent.nil)))))) (by decide +kernel) rfl rfl rfl (fun W' hS => ref_single ⟨11, 0, 0, 0, 0, 0, ⟨none, 0, []⟩, []⟩ G6 W' hS ⟨by simp, Row.nil _ _ _, by simp⟩) (fun G' _ => ⟨[ro W [] G', pcB b9 (pvs y2 (wsE V v)).1 (pvs y2 (wsE V v)).2, pcB b8 (pvs y1 (wsE E e)).1 (pvs y1 (wsE E e)).2, blk b3 76 #[.int .i64 (k : Nat), .int .i64 (N : Nat)], pcB b4 (.slice none 0 0) (.slice none 0 0)], (Ent.cons zpk (Ent.cons zpk (Ent.cons zpk (Ent.cons zpk (Ent.cons zpk (Ent.cons zpk Ent.nil))))))⟩) ?_
    intro x7 G7 h7 g7
    refine WP_callT (r := [pcB b9 (pvs y2 (wsE V v)).1 (pvs y2 (wsE V v)).2, pcB b8 (pvs y1 (wsE E e)).1 (pvs y1 (wsE E e)).2, blk b3 76 #[.int .i64 (k : Nat), .int .i64 (N : Nat)], pcB b4 (.slice none 0 0) (.slice none 0 0), pcB b6 (pvs x6 (ws ++ wsE E e ++ wsE V v)).1 (pvs x6 (ws ++ wsE E e ++ wsE V v)).2]) rfl (Ent.cons zpk (Ent.cons zpk (Ent.cons zpk (Ent.cons zpk (Ent.cons zpk (Ent.cons zpk Ent.nil)))))) (by decide +kernel) rfl rfl rfl (fun W' hS => ref_joinT (co ++ e.pcs ++ [testI ((co.length + e.pcs.length + 1 + v.pcs.length + 1 : Nat) : Int)] ++ v.pcs) retI (ws ++ wsE E e ++ wsE V v) x6 x7 G7 W' hS (h6.mono g7.1) h7 (by simp; omega) (by simp; omega)) (fun G' _ => ⟨[ro W [] G', pcB b9 (pvs y2 (wsE V v)).1 (pvs y2 (wsE V v)).2, pcB b8 (pvs y1 (wsE E e)).1 (pvs y1 (wsE E e)).2, blk b3 76 #[.int .i64 (k : Nat), .int .i64 (N : Nat)], pcB b4 (.slice none 0 0) (.slice none 0 0)], (Ent.cons zpk (Ent.cons zpk (Ent.cons zpk (Ent.cons zpk (Ent.cons zpk (Ent.cons zpk Ent.nil))))))⟩) ?_
    intro x8 G8 h8 g8
    refine WP_end ?_
    ((repeat' (first|refine zza ?_|refine zc9 ?_|refine zzb fun w hw => ?_|refine zzh fun _ => ?_|refine zzi fun _ _ => ?_|refine zzj (fun _ => ?_) fun _ => ?_)); (repeat' (refine CW_seq ?_; (repeat' (first|refine zza ?_|refine zc9 ?_|refine zzb fun w hw => ?_|refine zzh fun _ => ?_|refine zzi fun _ _ => ?_|refine zzj (fun _ => ?_) fun _ => ?_)))))
    refine EX_loop' (i + 1, x8, G8, co ++ e.pcs ++ [testI ((co.length + e.pcs.length + 1 + v.pcs.length + 1 : Nat) : Int)] ++ v.pcs ++ [retI], ws ++ wsE E e ++ wsE V v) ⟨zcov, zent, by dsimp only; omega, by dsimp only; omega, h8, Rd.grow_tr hg (Rd.grow_tr ga (Rd.grow_tr gb (Rd.grow_tr g3 (Rd.grow_tr g4 (Rd.grow_tr g5 (Rd.grow_tr g6 (Rd.grow_tr g7 g8))))))), hc2, hw2⟩
  · obtain rfl : i = N := by omega
    obtain ⟨e, he⟩ : ∃ e, es[2 * i]? = some e := ⟨es[2 * i]'(by omega), by simp [show 2 * i < es.length by omega]⟩
    have hem := List.mem_of_getElem? he
    have hoe := hes e hem
    have htl : (es.take (2 * i)).length = 2 * i := by rw [List.length_take]; omega
    have hget : (posE k (es.take (2 * i)))[2 * i]? = some ((endL k (es.take (2 * i)) : Nat) : Int) := by
      unfold posE
      rw [List.getElem?_map, List.getElem?_append_right (by rw [posL_len]; omega), posL_len, htl, Nat.sub_self]
      rfl
    have hd0 : es.drop (2 * i) = [e] := by rw [drop_cons_q he, List.drop_eq_nil_of_le (by omega)]
    have hdr2 : (L.map NodM.nod).drop (endL k (es.take (2 * i))) = e.flat ++ rest := by
      have h1 := hdr
      rw [← List.take_append_drop (2 * i) es, hd0, List.flatMap_append, List.append_assoc] at h1
      unfold endL
      rw [← List.drop_drop, h1, List.drop_left]
      simp
    have hcall := fun (G' : Rd) (hg : Rd.grow W G G') (W' : World) hS => pcs_ex e p c L (endL k (es.take (2 * i))) d rest G' W' hoe hdr2 hL (hR.mono hg.1) (fun x hx => (hB x hx).mono hg.1) hS
    have hg1 := pcsG_le es 0
    have hw1 := wsF_le es k
    have h4 : (es.flatMap Ex.flat).length ≤ 400 := by
      have h1 := congrArg List.length hdr
      rw [List.length_drop, List.length_map, List.length_append] at h1
      omega
    rw [hd0] at hco hws
    rw [pcsG] at hco
    rw [wsF, wsF, List.append_nil] at hws
    rw [← hco, List.length_append, List.length_append, List.length_singleton] at hg1
    rw [← hws, List.length_append] at hw1
    rw [← hco, ← hws]
    clear hes hdr hdr2 hR hB hoe hem hco hws hd0 he
    generalize hE : endL k (es.take (2 * i)) = E at hget hcall hw1 ⊢
    (repeat' ((fail_if_success refine zc8 ?_); (first|refine zza ?_|refine zzb fun w hw => ?_|refine zzh fun _ => ?_|refine zzi fun _ _ => ?_|refine zzj (fun _ => ?_) fun _ => ?_)))
    refine CW_perm 10 [0, 1, 2, 3, 4, 5, 6, 7, 8, 9] [pcB b6 (pvs xs ws).1 (pvs xs ws).2, blk b3 76 #[.int .i64 (k : Nat), .int .i64 (i : Nat)]] [] zcov (pm := [pcB b4 (.slice none 0 0) (.slice none 0 0), ro W [] Gi]) (Ent.cons zpk (Ent.cons zpk (Ent.cons zpk (Ent.cons zpk Ent.nil)))) (by kernel_rfl) (by decide +kernel) (by kernel_rfl) ?_
    (refine WP_op rfl rfl rfl zyi ?_)
    (refine WP_op rfl rfl rfl zyi ?_)
    (refine WP_op rfl rfl rfl zyi ?_)
    (refine WP_op rfl rfl rfl zyi ?_)
    (refine WP_op rfl rfl rfl zyi ?_)
    (refine WP_op rfl rfl rfl zyi ?_)
    refine WP_op rfl rfl rfl (y_indexN (i := 2 * i) rfl rfl (Row.some_lt (i := 2 * i) h1 (by rw [posE_len]; omega)) (by omega)) ?_
    refine WP_sole (hk := rfl) (hso := by decide +kernel) (he := (Ent.cons zpk (Ent.cons zpk (Ent.cons zpk (Ent.cons zpk Ent.nil))))) (pm := [pcB b4 (.slice none 0 0) (.slice none 0 0), ro W [] Gi]) (hg := rfl) (hn := rfl) (h := y_load rfl (rd_row (enc := encI) (h1.mono hg.1) zpk hget)) ?_
    refine WP_callT (r := [pcB b4 (.slice none 0 0) (.slice none 0 0), pcB b6 (pvs xs ws).1 (pvs xs ws).2, blk b3 76 #[.int .i64 (k : Nat), .int .i64 (i : Nat)]]) rfl (Ent.cons zpk (Ent.cons zpk (Ent.cons zpk (Ent.cons zpk Ent.nil)))) (by decide +kernel) rfl rfl rfl (fun W' hS => hcall Gi (Rd.grow_tr g1 hg) W' hS) (fun G' _ => ⟨[ro W [] G', pcB b4 (.slice none 0 0) (.slice none 0 0)], Ent.cons zpk (Ent.cons zpk (Ent.cons zpk (Ent.cons zpk Ent.nil)))⟩) ?_
    intro x3 G3 h3 g3
    refine WP_callT (r := [pcB b4 (.slice none 0 0) (.slice none 0 0), pcB b6 (pvs xs ws).1 (pvs xs ws).2, blk b3 76 #[.int .i64 (k : Nat), .int .i64 (i : Nat)]]) rfl (Ent.cons zpk (Ent.cons zpk (Ent.cons zpk (Ent.cons zpk Ent.nil)))) (by decide +kernel) rfl rfl rfl (fun W' hS => ref_joinPieces co e.pcs ws (wsE E e) xs x3 G3 W' hS (hp.mono g3.1) h3 (by omega) (by omega)) (fun G' _ => ⟨[ro W [] G', pcB b4 (.slice none 0 0) (.slice none 0 0)], Ent.cons zpk (Ent.cons zpk (Ent.cons zpk (Ent.cons zpk Ent.nil)))⟩) ?_
    intro x4 G4 h4' g4
    refine WP_end ?_
    (repeat' ((fail_if_success refine zc8 ?_); (first|refine zza ?_|refine zzb fun w hw => ?_|refine zzh fun _ => ?_|refine zzi fun _ _ => ?_|refine zzj (fun _ => ?_) fun _ => ?_)))
    refine CW_perm 4 [0, 1, 2, 3] [pcB b6 (pvs x4 (ws ++ wsE E e)).1 (pvs x4 (ws ++ wsE E e)).2] [] zcov (pm := [pcB b4 (.slice none 0 0) (.slice none 0 0), blk b3 76 #[.int .i64 (k : Nat), .int .i64 (i : Nat)], ro W [] G4]) (Ent.cons zpk (Ent.cons zpk (Ent.cons zpk (Ent.cons zpk Ent.nil)))) (by kernel_rfl) (by decide +kernel) (by kernel_rfl) ?_
    (refine WP_op rfl rfl rfl zyi ?_)
    (refine WP_op rfl rfl rfl zyi ?_)
    refine WP_callT (r := [pcB b4 (.slice none 0 0) (.slice none 0 0), blk b3 76 #[.int .i64 (k : Nat), .int .i64 (i : Nat)], pcB b6 (pvs x4 (ws ++ wsE E e)).1 (pvs x4 (ws ++ wsE E e)).2]) rfl (Ent.cons zpk (Ent.cons zpk (Ent.cons zpk (Ent.cons zpk Ent.nil)))) (by decide +kernel) rfl rfl rfl (fun W' hS => ref_single ⟨11, 0, 0, 0, 0, 0, ⟨none, 0, []⟩, []⟩ G4 W' hS ⟨by simp, Row.nil _ _ _, by simp⟩) (fun G' _ => ⟨[ro W [] G', pcB b4 (.slice none 0 0) (.slice none 0 0), blk b3 76 #[.int .i64 (k : Nat), .int .i64 (i : Nat)]], (Ent.cons zpk (Ent.cons zpk (Ent.cons zpk (Ent.cons zpk Ent.nil))))⟩) ?_
    intro x5 G5 h5 g5
    refine WP_callT (r := [pcB b4 (.slice none 0 0) (.slice none 0 0), blk b3 76 #[.int .i64 (k : Nat), .int .i64 (i : Nat)], pcB b6 (pvs x4 (ws ++ wsE E e)).1 (pvs x4 (ws ++ wsE E e)).2]) rfl (Ent.cons zpk (Ent.cons zpk (Ent.cons zpk (Ent.cons zpk Ent.nil)))) (by decide +kernel) rfl rfl rfl (fun W' hS => ref_joinPieces (co ++ e.pcs) [retI] (ws ++ wsE E e) [] x4 x5 G5 W' hS (h4'.mono g5.1) h5 (by simp; omega) (by simp; omega)) (fun G' _ => ⟨[ro W [] G', pcB b4 (.slice none 0 0) (.slice none 0 0), blk b3 76 #[.int .i64 (k : Nat), .int .i64 (i : Nat)]], (Ent.cons zpk (Ent.cons zpk (Ent.cons zpk (Ent.cons zpk Ent.nil))))⟩) ?_
    intro x6 G6 h6 g6
    refine WP_end ?_
    rw [List.append_nil, List.append_assoc] at h6
    ((repeat' (first|refine zza ?_|refine zc9 ?_|refine zzb fun w hw => ?_|refine zzh fun _ => ?_|refine zzi fun _ _ => ?_|refine zzj (fun _ => ?_) fun _ => ?_)); (repeat' (refine CW_seq ?_; (repeat' (first|refine zza ?_|refine zc9 ?_|refine zzb fun w hw => ?_|refine zzh fun _ => ?_|refine zzi fun _ _ => ?_|refine zzj (fun _ => ?_) fun _ => ?_)))))
    exact ⟨x6, G6, h6, by simp; rfl, Rd.grow_tr g1 (Rd.grow_tr hg (Rd.grow_tr g3 (Rd.grow_tr g4 (Rd.grow_tr g5 g6)))), hw.ent (Ent.cons zpk Ent.nil)⟩
end Go.Proofs.YtngeooflfkpikaaGreatDoor
