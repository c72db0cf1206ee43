/-
  ravelinref4: pieceOf: indices, walked.
  ravelinref4: pieceOf is walked: every expression.
  ravelinref4: written: the plain side.
-/
import Derived.Test.YtngeooflfkpikaaGreatDoorYGo
import Derived.Test.YtngeooflfkpikaaGreatDoorYRefPcx
namespace Go.Proofs.YtngeooflfkpikaaGreatDoor
open Go.RowKit
theorem posE_get {k i : Nat} {es : List Ex} (h : i < es.length) : (posE k es)[i]? = some ((endL k (es.take i) : Nat) : Int) := by
  unfold posE
  rw [List.getElem?_map, List.getElem?_append_left (by rw [posL_len]; exact h), posL_get es k i es[i] (by simp [h])]
  rfl
set_option maxHeartbeats 8000000 in
set_option maxRecDepth 100000 in
theorem pcs_idx (p : Option Addr) (c : Nat) (L : List NodM) (k d : Nat) (G : Rd) (W : World) (aop af ag : Int) (N : Nat) (nums : SlV Int) (text : List UInt8) (es : List Ex) (hC : ∀ e ∈ es, PcsC e) (hes : ∀ e ∈ es, e.ok d) (hlen : es.length = N + 1) (rest : List Nod) (hdr : (L.map NodM.nod).drop (k + 1) = es.flatMap Ex.flat ++ rest) (hL : L.length ≤ 400) (hk : k + 1 ≤ L.length) (hR : Row nodE 7 G p c L) (hB : ∀ x ∈ L, NodG G x) :
    PRest (pcsL es ++ [pickI N]) (wsL (k + 1) es) p c L k G W 8 aop af ag (N : Int) nums text := by
  intro b4 b5
  conv =>
    pattern cP _ _
    whnf
  have hN : N ≤ 400 := by
    have h1 := congrArg List.length hdr
    rw [List.length_drop, List.length_map, List.length_append] at h1
    have h2 := le_endL 0 es
    unfold endL at h2
    omega
  have hends := fun (W' : World) hS => ref_ends p c L es (k + 1) d hes rest hdr hL hk G W' hS hR hB ((N : Int) + 1) (by omega)
  have ed : es.drop (N + 1) = [] := List.drop_eq_nil_of_le (by omega)
  ((repeat' (first|refine zza ?_|refine zc9 ?_|refine zzb fun w hw => ?_|refine zzh fun _ => ?_|refine zzi fun _ _ => ?_|refine zzj (fun _ => ?_) fun _ => ?_)); (repeat' (refine CW_seq ?_; (repeat' (first|refine zza ?_|refine zc9 ?_|refine zzb fun w hw => ?_|refine zzh fun _ => ?_|refine zzi fun _ _ => ?_|refine zzj (fun _ => ?_) fun _ => ?_)))))
  refine WL_callT (r := [pnB b5 8 aop af ag (N : Int) nums text, pcB b4 (.slice none 0 0) (.slice none 0 0)]) (Ent.cons zpk (Ent.cons zpk (Ent.cons zpk Ent.nil))) rfl rfl rfl hends ?_
  intro x1 G1 h1 g1
  clear hends
  ((repeat' (first|refine zza ?_|refine zc9 ?_|refine zzb fun w hw => ?_|refine zzh fun _ => ?_|refine zzi fun _ _ => ?_|refine zzj (fun _ => ?_) fun _ => ?_)); (repeat' (refine CW_seq ?_; (repeat' (first|refine zza ?_|refine zc9 ?_|refine zzb fun w hw => ?_|refine zzh fun _ => ?_|refine zzi fun _ _ => ?_|refine zzj (fun _ => ?_) fun _ => ?_)))))
  rename_i b7
  refine CW_loopK [(0,_),(4,_),(5,_),(6,_),(7,_)] zcov (fun x : Nat × PcX × Rd => [(8, .int .i64 ((x.1 : Int) - 1))]) (fun x => [pnB b5 8 aop af ag (N : Int) nums text, pcB b4 (.slice none 0 0) (.slice none 0 0), pcB b7 (pvs x.2.1 (wsL (endL (k + 1) (es.take x.1)) (es.drop x.1))).1 (pvs x.2.1 (wsL (endL (k + 1) (es.take x.1)) (es.drop x.1))).2, ro W [] x.2.2]) (fun x => x.1 ≤ N + 1 ∧ PcR (pcsL (es.drop x.1)) (wsL (endL (k + 1) (es.take x.1)) (es.drop x.1)) x.2.1 x.2.2 ∧ Rd.grow W G1 x.2.2) (fun x => x.1) (N + 1, ([], (none, 0), (none, 0)), G1) ⟨Nat.le_refl _, by rw [ed]; exact ⟨rfl, by simp, Row.nil _ _ _, Row.nil _ _ _⟩, Rd.grow_refl _ _⟩ ?_ ?_ ?_
  · dsimp only
    rw [show ((N + 1 : Nat) : Int) - 1 = (N : Int) by omega]
    exact zcov
  · dsimp only
    rw [ed]
    exact zent
  rintro ⟨j, xs, Gi⟩ ⟨hj, hp, hg⟩
  dsimp only at hj hp hg ⊢
  rcases j with _ | i
  · rw [List.drop_zero, List.take_zero, show endL (k + 1) [] = k + 1 by simp [endL]] at hp ⊢
    have hle := pcsL_le es (k + 1)
    have h4 : (es.flatMap Ex.flat).length ≤ 400 := by
      have h1 := congrArg List.length hdr
      rw [List.length_drop, List.length_map, List.length_append] at h1
      omega
    clear hC hes hdr hR hB
    generalize hco : pcsL es = co at hp hle ⊢
    generalize hwo : wsL (k + 1) es = ws at hp hle ⊢
    clear hco hwo
    (repeat' ((fail_if_success refine zc8 ?_); (first|refine zza ?_|refine zzb fun w hw => ?_|refine zzh fun _ => ?_|refine zzi fun _ _ => ?_|refine zzj (fun _ => ?_) fun _ => ?_)))
    refine CW_perm 6 [0, 1, 2, 3, 4, 5] [pnB b5 8 aop af ag (N : Int) nums text, pcB b7 (pvs xs ws).1 (pvs xs ws).2] [] zcov (pm := [pcB b4 (.slice none 0 0) (.slice none 0 0), ro W [] Gi]) (Ent.cons zpk (Ent.cons zpk (Ent.cons zpk (Ent.cons zpk Ent.nil)))) (by kernel_rfl) (by decide +kernel) (by kernel_rfl) ?_
    (refine WP_op rfl rfl rfl zyi ?_)
    (refine WP_op rfl rfl rfl zyi ?_)
    (refine WP_op rfl rfl rfl zyi ?_)
    (refine WP_op rfl rfl rfl zyi ?_)
    refine WP_callT (r := [pnB b5 8 aop af ag (N : Int) nums text, pcB b4 (.slice none 0 0) (.slice none 0 0), pcB b7 (pvs xs ws).1 (pvs xs ws).2]) rfl (Ent.cons zpk (Ent.cons zpk (Ent.cons zpk (Ent.cons zpk Ent.nil)))) (by decide +kernel) rfl rfl rfl (fun W' hS => ref_single ⟨8, 0, 0, 0, (N : Int), 0, ⟨none, 0, []⟩, []⟩ Gi W' hS ⟨by simp, Row.nil _ _ _, by simp⟩) (fun G' _ => ⟨[ro W [] G', pcB b4 (.slice none 0 0) (.slice none 0 0)], Ent.cons .here (Ent.cons (.there .here) (Ent.cons .here (Ent.cons .here Ent.nil)))⟩) ?_
    intro x3 G3 h3 g3
    refine WP_callT (r := [pnB b5 8 aop af ag (N : Int) nums text, pcB b4 (.slice none 0 0) (.slice none 0 0), pcB b7 (pvs xs ws).1 (pvs xs ws).2]) rfl zent (by decide +kernel) rfl rfl rfl (fun W' hS => ref_joinS co (pickI N) ws xs x3 G3 W' hS (hp.mono g3.1) h3 (by omega) (by omega)) (fun G' _ => ⟨[ro W [] G', pcB b4 (.slice none 0 0) (.slice none 0 0)], Ent.cons .here (Ent.cons (.there .here) (Ent.cons .here (Ent.cons .here Ent.nil)))⟩) ?_
    intro x4 G4 h4' g4
    refine WP_end ?_
    ((repeat' (first|refine zza ?_|refine zc9 ?_|refine zzb fun w hw => ?_|refine zzh fun _ => ?_|refine zzi fun _ _ => ?_|refine zzj (fun _ => ?_) fun _ => ?_)); (repeat' (refine CW_seq ?_; (repeat' (first|refine zza ?_|refine zc9 ?_|refine zzb fun w hw => ?_|refine zzh fun _ => ?_|refine zzi fun _ _ => ?_|refine zzj (fun _ => ?_) fun _ => ?_)))))
    exact ⟨x4, G4, h4', rfl, Rd.grow_tr g1 (Rd.grow_tr hg (Rd.grow_tr g3 g4)), hw.ent (Ent.cons zpk Ent.nil)⟩
  · obtain ⟨e, he⟩ : ∃ e, es[i]? = some e := ⟨es[i]'(by omega), by simp [show i < es.length by omega]⟩
    have hem := List.mem_of_getElem? he
    have hCe := hC e hem
    have hoe := hes e hem
    have hget := posE_get (k := k + 1) (show i < es.length by omega)
    have hsp : es = es.take i ++ e :: es.drop (i + 1) := by rw [← drop_cons_q he, List.take_append_drop]
    have hdr2 : (L.map NodM.nod).drop (endL (k + 1) (es.take i)) = e.flat ++ ((es.drop (i + 1)).flatMap Ex.flat ++ rest) := by
      have h1 := hdr
      rw [hsp, List.flatMap_append, List.flatMap_cons, List.append_assoc, List.append_assoc] at h1
      unfold endL
      rw [← List.drop_drop, h1, List.drop_left]
    have hcall := fun (G' : Rd) (hg : Rd.grow W G G') (W' : World) hS => hCe p c L (endL (k + 1) (es.take i)) d _ G' W' hoe hdr2 hL (hR.mono hg.1) (fun x hx => (hB x hx).mono hg.1) hS
    have hpi := pcsL_drop he
    have hwi := wsL_drop (k := k + 1) he
    have h4 : ((es.drop i).flatMap Ex.flat).length ≤ 400 := by
      have h1 := congrArg List.length hdr2
      rw [List.length_drop, List.length_map, List.length_append, List.length_append] at h1
      rw [drop_cons_q he, List.flatMap_cons, List.length_append]
      omega
    have hle := pcsL_le (es.drop i) (endL (k + 1) (es.take i))
    rw [hpi, hwi, List.length_append, List.length_append] at hle
    clear hC hes hdr hdr2 hR hB hCe hoe hem hsp
    generalize hA : wsL (endL (k + 1) (es.take (i + 1))) (es.drop (i + 1)) = ws at hp hle hwi ⊢
    generalize hB : pcsL (es.drop (i + 1)) = co at hp hle hpi ⊢
    clear hA hB
    generalize hE : endL (k + 1) (es.take i) = E at hget hcall hwi hle
    rw [show ((i + 1 : Nat) : Int) - 1 = (i : Int) by omega]
    have hi0 : (0 : Int) ≤ (i : Int) := by omega
    (repeat' ((fail_if_success refine zc8 ?_); (first|refine zza ?_|refine zzb fun w hw => ?_|refine zzh fun _ => ?_|refine zzi fun _ _ => ?_|refine zzj (fun _ => ?_) fun _ => ?_)))
    refine CW_perm 8 [0, 1, 2, 3, 4, 5, 6, 7] [pcB b7 (pvs xs ws).1 (pvs xs ws).2] [] zcov (pm := [pnB b5 8 aop af ag (N : Int) nums text, pcB b4 (.slice none 0 0) (.slice none 0 0), ro W [] Gi]) (Ent.cons zpk (Ent.cons zpk (Ent.cons zpk (Ent.cons zpk Ent.nil)))) (by kernel_rfl) (by decide +kernel) (by kernel_rfl) ?_
    (refine WP_op rfl rfl rfl zyi ?_)
    (refine WP_op rfl rfl rfl zyi ?_)
    (refine WP_op rfl rfl rfl zyi ?_)
    (refine WP_op rfl rfl rfl zyi ?_)
    refine WP_op rfl rfl rfl (y_indexN (i := i) rfl rfl (Row.some_lt (i := i) h1 (by rw [posE_len]; omega)) (by omega)) ?_
    refine WP_sole (hk := rfl) (hso := by decide +kernel) (he := Ent.cons zpk (Ent.cons zpk (Ent.cons zpk (Ent.cons zpk Ent.nil)))) (pm := [pnB b5 8 aop af ag (N : Int) nums text, pcB b4 (.slice none 0 0) (.slice none 0 0), ro W [] Gi]) (hg := rfl) (hn := rfl) (h := y_load rfl (rd_row (enc := encI) (h1.mono hg.1) (.there (.there (.there .here))) hget)) ?_
    refine WP_callT (r := [pnB b5 8 aop af ag (N : Int) nums text, pcB b4 (.slice none 0 0) (.slice none 0 0), pcB b7 (pvs xs ws).1 (pvs xs ws).2]) rfl (Ent.cons zpk (Ent.cons zpk (Ent.cons zpk (Ent.cons zpk Ent.nil)))) (by decide +kernel) rfl rfl rfl (fun W' hS => hcall Gi (Rd.grow_tr g1 hg) W' hS) (fun G' _ => ⟨[ro W [] G', pnB b5 8 aop af ag (N : Int) nums text, pcB b4 (.slice none 0 0) (.slice none 0 0)], Ent.refl⟩) ?_
    intro x3 G3 h3 g3
    refine WP_callT (r := [pnB b5 8 aop af ag (N : Int) nums text, pcB b4 (.slice none 0 0) (.slice none 0 0), pcB b7 (pvs xs ws).1 (pvs xs ws).2]) rfl Ent.refl (by decide +kernel) rfl rfl rfl (fun W' hS => ref_joinPieces co e.pcs ws (wsE E e) xs x3 G3 W' hS (hp.mono g3.1) h3 (by omega) (by omega)) (fun G' _ => ⟨[ro W [] G', pnB b5 8 aop af ag (N : Int) nums text, pcB b4 (.slice none 0 0) (.slice none 0 0)], Ent.refl⟩) ?_
    intro x4 G4 h4' g4
    refine WP_end ?_
    ((repeat' (first|refine zza ?_|refine zc9 ?_|refine zzb fun w hw => ?_|refine zzh fun _ => ?_|refine zzi fun _ _ => ?_|refine zzj (fun _ => ?_) fun _ => ?_)); (repeat' (refine CW_seq ?_; (repeat' (first|refine zza ?_|refine zc9 ?_|refine zzb fun w hw => ?_|refine zzh fun _ => ?_|refine zzi fun _ _ => ?_|refine zzj (fun _ => ?_) fun _ => ?_)))))
    refine EX_loop' (i, x4, G4) ⟨?_, ?_, Nat.le_refl _, ⟨by dsimp only; omega, ?_, Rd.grow_tr hg (Rd.grow_tr g3 g4)⟩⟩
    · exact zcov
    · dsimp only
      rw [hE, hwi]
      exact zent
    · dsimp only
      rw [hE, hwi, hpi]
      exact h4'
end Go.Proofs.YtngeooflfkpikaaGreatDoor
namespace Go.Proofs.YtngeooflfkpikaaGreatDoor
open Go.RowKit
theorem pcs_pick (n : Nod) (o : Ex) (b : Exs) (ho : PcsC o) (hb : ∀ e ∈ b.list, PcsC e) : PcsC (.pick n o b) := by
  intro p c L k d rest G W hok hdr hL hR hB hS
  unfold Ex.ok at hok
  obtain ⟨⟨h1, h2, h3⟩, hook, hbok⟩ := hok
  rw [Ex.flat, List.cons_append, List.append_assoc] at hdr
  obtain ⟨x, hx, hxn, hk, hdr2⟩ := drop_cons_p hdr
  obtain ⟨op, aop, af, ag, nn, nums, text⟩ := x
  dsimp only [NodM.nod] at hxn
  subst hxn
  have hn : 0 ≤ nn := right_n h1
  dsimp only at h2 h3
  subst h2
  obtain ⟨N, rfl⟩ := Int.eq_ofNat_of_zero_le hn
  rw [pcs_pick_eq, wsE_pick]
  refine pcs_enter hx hL hR hS ?_
  have hlen : (o :: b.list).length = N + 1 := by
    rw [List.length_cons, Exs.list_len]
    omega
  refine pcs_idx p c L k d G W aop af ag N nums text (o :: b.list) ?_ ?_ hlen rest ?_ hL hk hR hB
  · intro e he
    rcases List.mem_cons.1 he with rfl | he
    · exact ho
    · exact hb e he
  · intro e he
    rcases List.mem_cons.1 he with rfl | he
    · exact hook
    · exact Exs.list_ok b _ hbok e he
  · rw [List.flatMap_cons, Exs.list_flat, List.append_assoc]
    exact hdr2
theorem pcs_leaf (n : Nod) : PcsC (.leaf n) := by
  intro p c L k d rest G W hok hdr hL hR hB hS
  obtain ⟨x, hx, hxn, hk, _⟩ := drop_cons_p hdr
  have hxB := hB x (List.mem_of_getElem? hx)
  obtain ⟨_, hop⟩ := hok
  obtain ⟨op, aop, af, ag, n', nums, text⟩ := x
  dsimp only [NodM.nod] at hxn
  subst hxn
  dsimp only at hop
  have hw : wsE k (.leaf ⟨op, aop, af, ag, n', nums.xs, text⟩) = [] := rfl
  rw [hw, Ex.pcs]
  rcases hop with rfl | rfl | rfl | ⟨rfl | rfl, _⟩
  · exact pcs_enter hx hL hR hS (pcs_nums p c L k G W aop af ag n' nums text hxB.nums hxB.numsL)
  · exact pcs_enter hx hL hR hS (pcs_text p c L k G W aop af ag n' nums text hxB.text)
  · exact pcs_enter hx hL hR hS (pcs_name p c L k G W aop af ag n' nums text hxB.text)
  · exact pcs_enter hx hL hR hS (pcs_alpha p c L k G W aop af ag n' nums text)
  · exact pcs_enter hx hL hR hS (pcs_omega p c L k G W aop af ag n' nums text)
mutual
theorem pcs_ex : ∀ e : Ex, PcsC e
  | .leaf n => pcs_leaf n
  | .one n b r => pcs_one n b r (pcs_ex r)
  | .two n l b r => pcs_two n l b r (pcs_ex l) (pcs_ex r)
  | .pick n o b => pcs_pick n o b (pcs_ex o) (pcs_exs b)
theorem pcs_exs : ∀ b : Exs, ∀ e ∈ b.list, PcsC e
  | .nil, e, he => by simp [Exs.list] at he
  | .cons x r, e, he => by
    rw [Exs.list] at he
    rcases List.mem_cons.1 he with hx | he
    · rw [hx]
      exact pcs_ex x
    · exact pcs_exs r e he
end
end Go.Proofs.YtngeooflfkpikaaGreatDoor
namespace Go.Proofs.YtngeooflfkpikaaGreatDoor
open Go.RowKit
/-- a function's piece, over a list of its parts -/
def pcsG (o : Nat) : List Ex → List Ins
  | [] => []
  | [e] => e.pcs ++ [retI]
  | c :: v :: r => c.pcs ++ testI ((o + c.pcs.length + 1 + v.pcs.length + 1 : Nat) : Int) :: (v.pcs ++ retI :: pcsG (o + c.pcs.length + 1 + v.pcs.length + 1) r)
theorem pcsG_list : ∀ (b : Exs) (o : Nat), pcsG o b.list = b.pcsF o
  | .nil, _ => rfl
  | .cons e .nil, _ => rfl
  | .cons c (.cons v r), o => by
    rw [Exs.list, Exs.list, pcsG, Exs.pcsF, pcsG_list r]
/-- what the parts wait for, the first one first -/
def wsF : Nat → List Ex → List (Int × Int)
  | _, [] => []
  | k, e :: es => wsE k e ++ wsF (k + e.flat.length) es
theorem wsF_list : ∀ (b : Exs) (o k : Nat), wsF k b.list = (b.funcW o k).map fun w => ((w.pos : Int), w.n)
  | .nil, _, _ => rfl
  | .cons e .nil, o, k => by
    rw [Exs.list, wsF, Exs.funcW]
    exact (List.append_nil _).trans (Ex.waits_o e 0 _ k)
  | .cons c (.cons v r), o, k => by
    rw [Exs.list, Exs.list, wsF, wsF, Exs.funcW, wsF_list r (o + (c.code 0).length + 1 + (v.code 0).length + 1), List.map_append, List.map_append]
    unfold wsE
    rw [Ex.waits_o c 0 o k, Ex.waits_o v 0 (o + (c.code 0).length + 1) _]
/-- where tests are walked: what is told so far, with what is left, is the whole -/
theorem pcsG_step {out : List Ins} {es : List Ex} {i : Nat} {c v : Ex} (hc : es[i]? = some c) (hv : es[i + 1]? = some v) {all : List Ins} (h : out ++ pcsG out.length (es.drop i) = all) :
    (((out ++ c.pcs) ++ [testI ((out.length + c.pcs.length + 1 + v.pcs.length + 1 : Nat) : Int)]) ++ v.pcs) ++ [retI] ++ pcsG ((((out ++ c.pcs) ++ [testI ((out.length + c.pcs.length + 1 + v.pcs.length + 1 : Nat) : Int)]) ++ v.pcs) ++ [retI]).length (es.drop (i + 2)) = all := by
  rw [drop_cons_q hc, drop_cons_q hv, pcsG] at h
  rw [← h]
  have e1 : ((((out ++ c.pcs) ++ [testI ((out.length + c.pcs.length + 1 + v.pcs.length + 1 : Nat) : Int)]) ++ v.pcs) ++ [retI]).length = out.length + c.pcs.length + 1 + v.pcs.length + 1 := by
    simp only [List.length_append, List.length_cons, List.length_nil]
  rw [e1]
  simp
theorem wsF_step {ws : List (Int × Int)} {es : List Ex} {k i : Nat} {e : Ex} (he : es[i]? = some e) {all : List (Int × Int)} (h : ws ++ wsF (endL k (es.take i)) (es.drop i) = all) : (ws ++ wsE (endL k (es.take i)) e) ++ wsF (endL k (es.take (i + 1))) (es.drop (i + 1)) = all := by
  rw [drop_cons_q he, wsF] at h
  have htk : es.take (i + 1) = es.take i ++ [e] := by rw [List.take_add_one, he]; rfl
  rw [List.append_assoc, ← h, htk, endL_app]
  simp [endL]
end Go.Proofs.YtngeooflfkpikaaGreatDoor
