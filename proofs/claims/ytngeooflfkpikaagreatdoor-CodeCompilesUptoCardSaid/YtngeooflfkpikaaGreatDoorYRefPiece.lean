/-
  ravelinref4: pieces of code: one behind the other, of one instruction; where expressions end.
-/
import Derived.Test.YtngeooflfkpikaaGreatDoorYGo
import Derived.Test.YtngeooflfkpikaaGreatDoorYOpenIns
import Derived.Test.YtngeooflfkpikaaGreatDoorYPiecePlain
import Derived.Test.YtngeooflfkpikaaGreatDoorYRefBehind
import Derived.Test.YtngeooflfkpikaaGreatDoorYRefTree
namespace Go.Proofs.YtngeooflfkpikaaGreatDoor
open Go.RowKit
/-- one that waits, as it lies in memory -/
def wtE (w : Int × Int) : List Value := [.int .i64 w.1, .int .i64 w.2]
abbrev PcX := List InsM × (Option Addr × Nat) × (Option Addr × Nat)
abbrev pcV (ws : List (Int × Int)) (x : PcX) : Value := .agg #[.slice x.2.1.1 x.1.length x.2.1.2, .slice x.2.2.1 ws.length x.2.2.2]
/-- a piece lies there -/
structure PcR (code : List Ins) (ws : List (Int × Int)) (x : PcX) (G : Rd) : Prop where
  eq : x.1.map InsM.ins = code
  good : ∀ y ∈ x.1, InsG G y
  code : Row insE 8 G x.2.1.1 x.2.1.2 x.1
  waits : Row wtE 2 G x.2.2.1 x.2.2.2 ws
theorem PcR.mono {code : List Ins} {ws : List (Int × Int)} {x : PcX} {G G' : Rd} (h : PcR code ws x G) (hl : Rd.le G G') : PcR code ws x G' := ⟨h.eq, fun y hy => (h.good y hy).mono hl, h.code.mono hl, h.waits.mono hl⟩
theorem PcR.len {code : List Ins} {ws : List (Int × Int)} {x : PcX} {G : Rd} (h : PcR code ws x G) : x.1.length = code.length := by rw [← h.eq, List.length_map]
theorem cells_ins (x : InsM) : ∀ u ∈ insE x, u.oneCell' = true := fun u hu => by
  simp only [insE, List.mem_cons, List.not_mem_nil, or_false] at hu
  rcases hu with rfl | rfl | rfl | rfl | rfl | rfl | rfl | rfl <;> rfl
theorem cells_wt (x : Int × Int) : ∀ u ∈ wtE x, u.oneCell' = true := fun u hu => by
  simp only [wtE, List.mem_cons, List.not_mem_nil, or_false] at hu
  rcases hu with rfl | rfl <;> rfl
theorem tells_sl1 {α : Type} {enc : α → List Value} {sz : Nat} (hs : ∀ x, (enc x).length = sz) (h0 : 0 < sz) {X : Type} {V : X → Value} {Φ : X → Rd → Prop} {G : Rd} {w w' : World} {e : TypeId} {n c : Nat} {p : Option Addr} {xs : List α} {r : List HP} {v : Value} (x : X) (hv : v = V x) (hh : Holds w [] (ro w [] G :: sl e sz p n c (xs.flatMap enc) :: r) w') (hp : ∀ G', Rd.grow w G G' → Row enc sz G' p c xs → Φ x G') : Tells V Φ G w (.returned v) w' := by
  obtain ⟨G1, g1, r1, h1⟩ := Holds.toRo hs h0 hh (fun _ _ => by simp)
  exact ⟨x, G1, hp G1 g1 r1, by rw [hv], g1, h1.ent (Ent.cons .here Ent.nil)⟩
/-- two slices of one's own are told as rows -/
theorem tells_sl2 {α β : Type} {enc1 : α → List Value} {sz1 : Nat} {enc2 : β → List Value} {sz2 : Nat} (hs1 : ∀ x, (enc1 x).length = sz1) (h01 : 0 < sz1) (hs2 : ∀ x, (enc2 x).length = sz2) (h02 : 0 < sz2) {X : Type} {V : X → Value} {Φ : X → Rd → Prop} {G : Rd} {w w' : World} {e1 e2 : TypeId} {n1 c1 n2 c2 : Nat} {p1 p2 : Option Addr} {xs : List α} {ys : List β} {r : List HP} {v : Value} (x : X) (hv : v = V x) (hh : Holds w [] (ro w [] G :: sl e1 sz1 p1 n1 c1 (xs.flatMap enc1) :: sl e2 sz2 p2 n2 c2 (ys.flatMap enc2) :: r) w') (hp : ∀ G', Rd.grow w G G' → Row enc1 sz1 G' p1 c1 xs → Row enc2 sz2 G' p2 c2 ys → Φ x G') : Tells V Φ G w (.returned v) w' := by
  obtain ⟨G1, g1, r1, h1⟩ := Holds.toRo hs1 h01 hh (fun _ _ => by simp)
  obtain ⟨G2, g2, r2, h2⟩ := Holds.toRo hs2 h02 h1 (fun _ _ => by simp)
  exact ⟨x, G2, hp G2 (Rd.grow_tr g1 g2) (r1.mono g2.1) r2, by rw [hv], Rd.grow_tr g1 g2, h2.ent (Ent.cons .here Ent.nil)⟩
set_option maxHeartbeats 8000000 in
set_option maxRecDepth 100000 in
theorem ref_joinPieces (a b : List Ins) (ws vs : List (Int × Int)) (x y : PcX) (G : Rd) (w : World) (hS : Rd.sub G [] w) (ha : PcR a ws x G) (hb : PcR b vs y G) (hl : a.length + b.length ≤ 100000000) (hl2 : ws.length + vs.length ≤ 100000000) :
    Calls Tryz.prog 22 #[pcV ws x, pcV vs y] w (Tells (pcV (ws ++ vs)) (PcR (a ++ b) (ws ++ vs)) G w) := by
  obtain ⟨xs, ⟨p, c⟩, ⟨p2, c2⟩⟩ := x
  obtain ⟨ys, ⟨q, d⟩, ⟨q2, d2⟩⟩ := y
  have h1 := ha.code
  have h2 := hb.code
  have h3 := ha.waits
  have h4 := hb.waits
  have hxl := ha.len
  have hyl := hb.len
  dsimp only at h1 h2 h3 h4 hxl hyl
  dsimp only [pcV]
  refine enterR (args := [_, _]) (m := []) (F := []) hS rfl Tryz.func22 rfl Tryz.ntmps22 (by simp) ?_
  clear hS
  ((repeat' (first|refine zza ?_|refine zc9 ?_|refine zzb fun w hw => ?_|refine zzh fun _ => ?_|refine zzi fun _ _ => ?_|refine zzj (fun _ => ?_) fun _ => ?_)); (repeat' (refine CW_seq ?_; (repeat' (first|refine zza ?_|refine zc9 ?_|refine zzb fun w hw => ?_|refine zzh fun _ => ?_|refine zzi fun _ _ => ?_|refine zzj (fun _ => ?_) fun _ => ?_)))))
  rename_i b2 b3 b4 b5
  refine WL_ent (Ent.nilown (e := 72) (sz := 8) (Ent.nilown (e := 76) (sz := 2) Ent.refl)) ?_
  apply WL_appendRowG (enc := insE) (sz := 8) (fun _ => rfl) (by decide) (fun x _ => cells_ins x) h1 rfl rfl .here zpk (by omega) (by omega) rfl rfl
  intro q3 c3
  ((repeat' (first|refine zza ?_|refine zc9 ?_|refine zzb fun w hw => ?_|refine zzh fun _ => ?_|refine zzi fun _ _ => ?_|refine zzj (fun _ => ?_) fun _ => ?_)); (repeat' (refine CW_seq ?_; (repeat' (first|refine zza ?_|refine zc9 ?_|refine zzb fun w hw => ?_|refine zzh fun _ => ?_|refine zzi fun _ _ => ?_|refine zzj (fun _ => ?_) fun _ => ?_)))))
  apply WL_appendRowG (enc := insE) (sz := 8) (fun _ => rfl) (by decide) (fun x _ => cells_ins x) h2 rfl rfl zpk zpk (by omega) (by omega) rfl rfl
  intro q4 c4
  rw [show 0 + xs.length + ys.length = (xs ++ ys).length by simp, show ([] ++ xs.flatMap insE) ++ ys.flatMap insE = (xs ++ ys).flatMap insE by simp]
  ((repeat' (first|refine zza ?_|refine zc9 ?_|refine zzb fun w hw => ?_|refine zzh fun _ => ?_|refine zzi fun _ _ => ?_|refine zzj (fun _ => ?_) fun _ => ?_)); (repeat' (refine CW_seq ?_; (repeat' (first|refine zza ?_|refine zc9 ?_|refine zzb fun w hw => ?_|refine zzh fun _ => ?_|refine zzi fun _ _ => ?_|refine zzj (fun _ => ?_) fun _ => ?_)))))
  apply WL_appendRowG (enc := wtE) (sz := 2) (fun _ => rfl) (by decide) (fun x _ => cells_wt x) h3 rfl rfl zpk zpk (by omega) (by omega) rfl rfl
  intro q5 c5
  ((repeat' (first|refine zza ?_|refine zc9 ?_|refine zzb fun w hw => ?_|refine zzh fun _ => ?_|refine zzi fun _ _ => ?_|refine zzj (fun _ => ?_) fun _ => ?_)); (repeat' (refine CW_seq ?_; (repeat' (first|refine zza ?_|refine zc9 ?_|refine zzb fun w hw => ?_|refine zzh fun _ => ?_|refine zzi fun _ _ => ?_|refine zzj (fun _ => ?_) fun _ => ?_)))))
  apply WL_appendRowG (enc := wtE) (sz := 2) (fun _ => rfl) (by decide) (fun x _ => cells_wt x) h4 rfl rfl zpk zpk (by omega) (by omega) rfl rfl
  intro q6 c6
  rw [show 0 + ws.length + vs.length = (ws ++ vs).length by simp, show ([] ++ ws.flatMap wtE) ++ vs.flatMap wtE = (ws ++ vs).flatMap wtE by simp]
  ((repeat' (first|refine zza ?_|refine zc9 ?_|refine zzb fun w hw => ?_|refine zzh fun _ => ?_|refine zzi fun _ _ => ?_|refine zzj (fun _ => ?_) fun _ => ?_)); (repeat' (refine CW_seq ?_; (repeat' (first|refine zza ?_|refine zc9 ?_|refine zzb fun w hw => ?_|refine zzh fun _ => ?_|refine zzi fun _ _ => ?_|refine zzj (fun _ => ?_) fun _ => ?_)))))
  refine tells_sl2 (enc1 := insE) (sz1 := 8) (enc2 := wtE) (sz2 := 2) (V := pcV (ws ++ vs)) (fun _ => rfl) (by decide) (fun _ => rfl) (by decide) (xs ++ ys, (q4, c4), (q6, c6)) rfl (hw.ent (Ent.cons zpk (Ent.cons zpk (Ent.cons zpk Ent.nil)))) (fun G' hg r1 r2 => ⟨?_, fun y hy => ?_, r1, r2⟩)
  · rw [List.map_append, ha.eq, hb.eq]
  · rcases List.mem_append.1 hy with hy | hy
    · exact (ha.good y hy).mono hg.1
    · exact (hb.good y hy).mono hg.1
set_option maxHeartbeats 8000000 in
set_option maxRecDepth 100000 in
theorem ref_single (i : InsM) (G : Rd) (w : World) (hS : Rd.sub G [] w) (hi : InsG G i) :
    Calls Tryz.prog 24 #[.agg (insE i).toArray] w (Tells (pcV []) (PcR [i.ins] []) G w) := by
  obtain ⟨op, aop, af, ag, n, dst, nums, text⟩ := i
  dsimp only [insE]
  refine enterR (args := [_]) (m := []) (F := []) hS rfl Tryz.func24 rfl Tryz.ntmps24 (by simp) ?_
  clear hS
  ((repeat' (first|refine zza ?_|refine zc9 ?_|refine zzb fun w hw => ?_|refine zzh fun _ => ?_|refine zzi fun _ _ => ?_|refine zzj (fun _ => ?_) fun _ => ?_)); (repeat' (refine CW_seq ?_; (repeat' (first|refine zza ?_|refine zc9 ?_|refine zzb fun w hw => ?_|refine zzh fun _ => ?_|refine zzi fun _ _ => ?_|refine zzj (fun _ => ?_) fun _ => ?_)))))
  rename_i b1 b2 b3
  exact tells_sl1 (enc := insE) (sz := 8) (V := pcV []) (xs := [⟨op, aop, af, ag, n, dst, nums, text⟩]) (fun _ => rfl) (by decide) ([⟨op, aop, af, ag, n, dst, nums, text⟩], (some ⟨b3, 0, none⟩, 1), (none, 0)) rfl (hw.ent (Ent.cons zpk (Ent.blkSlN (n := 1) (sz := 8) (xs := ([⟨op, aop, af, ag, n, dst, nums, text⟩] : List InsM).flatMap insE) (.there .here) (by kernel_rfl) rfl (by decide) Ent.nil))) (fun G' hg r1 => ⟨rfl, fun y hy => by
    obtain rfl := List.mem_singleton.1 hy
    exact hi.mono hg.1, r1, Row.nil _ _ _⟩)
mutual
/-- what may be within some function may be within any -/
theorem Ex.ok_pos : ∀ (e : Ex) (d d' : Nat), 0 < d' → e.ok d → e.ok d'
  | .leaf n, d, d', h0, h => by
    obtain ⟨h1, h2⟩ := h
    refine ⟨h1, ?_⟩
    rcases h2 with h | h | h | ⟨h, _⟩
    · exact .inl h
    · exact .inr (.inl h)
    · exact .inr (.inr (.inl h))
    · exact .inr (.inr (.inr ⟨h, h0⟩))
  | .one n b r, d, d', h0, h => by
    unfold Ex.ok at h ⊢
    exact ⟨⟨h.1.1, h.1.2.1, h.1.2.2.1, fun _ => h0⟩, Exs.ok_pos b (d + 1) (d' + 1) (by omega) h.2.1, Ex.ok_pos r d d' h0 h.2.2⟩
  | .two n l b r, d, d', h0, h => by
    unfold Ex.ok at h ⊢
    exact ⟨⟨h.1.1, h.1.2.1, h.1.2.2.1, fun _ => h0⟩, Ex.ok_pos l d d' h0 h.2.1, Exs.ok_pos b (d + 1) (d' + 1) (by omega) h.2.2.1, Ex.ok_pos r d d' h0 h.2.2.2⟩
  | .pick n o b, d, d', h0, h => by
    unfold Ex.ok at h ⊢
    exact ⟨h.1, Ex.ok_pos o d d' h0 h.2.1, Exs.ok_pos b d d' h0 h.2.2⟩
theorem Exs.ok_pos : ∀ (b : Exs) (d d' : Nat), 0 < d' → b.ok d → b.ok d'
  | .nil, _, _, _, _ => trivial
  | .cons e r, d, d', h0, h => by
    unfold Exs.ok at h ⊢
    exact ⟨Ex.ok_pos e d d' h0 h.1, Exs.ok_pos r d d' h0 h.2⟩
end
/-- the places where expressions begin, and where the last one ends -/
def posE (k : Nat) (es : List Ex) : List Int := (posL k es ++ [endL k es]).map fun (n : Nat) => (n : Int)
theorem posE_len (k : Nat) (es : List Ex) : (posE k es).length = es.length + 1 := by simp [posE, posL_len]
theorem posE_snoc (k : Nat) (es : List Ex) (e : Ex) : posE k (es ++ [e]) = posE k es ++ [(endL k (es ++ [e]) : Int)] := by
  unfold posE
  rw [posL_app]
  simp [posL]
theorem flatI (xs : List Int) : xs.flatMap encI = xs.map (Value.int .i64) := by
  induction xs with
  | nil => rfl
  | cons x r ih => rw [List.flatMap_cons, ih]; rfl
theorem next_at {l : List Nod} {k d : Nat} {e : Ex} {rest : List Nod} (hok : e.ok d) (hdr : l.drop k = e.flat ++ rest) (hk : k ≤ l.length) : nextI 1 l (some k) = some (k + e.flat.length) := by
  have he : exF 1 (l.drop k) = some (e, rest) := exF_iff.2 ⟨Ex.ok_pos e d 1 (by decide) hok, hdr⟩
  rw [nextI_of he, (suffix_at hdr hk).2.1]
set_option maxHeartbeats 8000000 in
set_option maxRecDepth 100000 in
theorem ref_ends (p : Option Addr) (c : Nat) (L : List NodM) (es : List Ex) (k d : Nat) (hok : ∀ e ∈ es, e.ok d) (rest : List Nod) (hdr : (L.map NodM.nod).drop k = es.flatMap Ex.flat ++ rest) (hL : L.length ≤ 400) (hk : k ≤ L.length) (G : Rd) (W : World) (hS : Rd.sub G [] W) (hR : Row nodE 7 G p c L) (hB : ∀ x ∈ L, NodG G x) (K : Int) (hK : K = (es.length : Int)) :
    Calls Tryz.prog 74 #[.slice p L.length c, .int .i64 (k : Nat), .int .i64 K] W (Tells (fun x : Option Addr × Nat => .slice x.1 (es.length + 1) x.2) (fun x G' => Row encI 1 G' x.1 x.2 (posE k es)) G W) := by
  subst hK
  refine enterR (args := [_, _, _]) (m := []) (F := []) hS rfl Tryz.func74 rfl Tryz.ntmps74 (by simp) ?_
  clear hS
  ((repeat' (first|refine zza ?_|refine zc9 ?_|refine zzb fun w hw => ?_|refine zzh fun _ => ?_|refine zzi fun _ _ => ?_|refine zzj (fun _ => ?_) fun _ => ?_)); (repeat' (refine CW_seq ?_; (repeat' (first|refine zza ?_|refine zc9 ?_|refine zzb fun w hw => ?_|refine zzh fun _ => ?_|refine zzi fun _ _ => ?_|refine zzj (fun _ => ?_) fun _ => ?_)))))
  rename_i b0
  have hes : k + es.length ≤ 400 := by
    have h1 := congrArg List.length hdr
    rw [List.length_drop, List.length_map, List.length_append] at h1
    have h2 := le_endL k es
    unfold endL at h2
    omega
  refine CW_loopK [(0,_),(2,_)] zcov (fun x : Nat × Option Addr × Nat => [(8, .int .i64 (x.1 : Int)), (1, .int .i64 (endL k (es.take x.1) : Int)), (7, .slice x.2.1 (x.1 + 1) x.2.2)]) (fun x => [ro W [] G, sl 3 1 x.2.1 (x.1 + 1) x.2.2 ((posE k (es.take x.1)).map (Value.int .i64))]) (fun x => x.1 ≤ es.length) (fun x => es.length - x.1) (0, some ⟨b0, 0, none⟩, 1) (Nat.zero_le _) ?_ ?_ ?_
  · have e0 : endL k (es.take 0) = k := by simp [endL]
    dsimp only
    rw [e0]
    exact zcov
  · have e1 : posE k (es.take 0) = [(k : Int)] := by simp [posE, posL, endL]
    dsimp only
    rw [e1]
    exact Ent.cons (.there .here) (Ent.blkSl (n := 1) .here rfl rfl (by decide) Ent.nil)
  rintro ⟨i, q, cq⟩ hi
  dsimp only at hi ⊢
  by_cases hlt : i < es.length
  · obtain ⟨e, he⟩ : ∃ e, es[i]? = some e := ⟨es[i], by simp [hlt]⟩
    have htk : es.take (i + 1) = es.take i ++ [e] := by rw [List.take_add_one, he]; rfl
    have hsp : es = es.take i ++ e :: es.drop (i + 1) := by
      conv => lhs; rw [← List.take_append_drop i es]
      congr 1
      exact (List.getElem?_eq_some_iff.1 he).2 ▸ List.drop_eq_getElem_cons (List.getElem?_eq_some_iff.1 he).1
    have hdr2 : (L.map NodM.nod).drop (endL k (es.take i)) = e.flat ++ ((es.drop (i + 1)).flatMap Ex.flat ++ rest) := by
      have h1 := hdr
      rw [hsp, List.flatMap_append, List.flatMap_cons, List.append_assoc, List.append_assoc] at h1
      unfold endL
      rw [← List.drop_drop, h1, List.drop_left]
    have hle : endL k (es.take i) ≤ (L.map NodM.nod).length := by
      rcases Nat.lt_or_ge (L.map NodM.nod).length (endL k (es.take i)) with h | h
      · rw [List.drop_eq_nil_of_le (by omega)] at hdr2
        have := congrArg List.length hdr2
        have := e.flat_pos
        simp only [List.length_nil, List.length_append] at *
        omega
      · exact h
    have hnx := next_at (hok e (List.mem_of_getElem? he)) hdr2 hle
    rw [List.length_map] at hle
    have hen : endL k (es.take (i + 1)) = endL k (es.take i) + e.flat.length := by rw [htk, endL_app]; simp [endL]
    have hps : posE k (es.take (i + 1)) = posE k (es.take i) ++ [((endL k (es.take i) + e.flat.length : Nat) : Int)] := by
      rw [htk, posE_snoc, ← htk, hen]
    have hcall : ∀ W', Holds W [] [ro W [] G, sl 3 1 q (i + 1) cq ((posE k (es.take i)).map (Value.int .i64))] W' → Calls Tryz.prog 73 #[.slice p L.length c, .int .i64 (endL k (es.take i) : Int), .int .i64 1] W' fun e' w' => e' = .returned (.int .i64 ((endL k (es.take i) + e.flat.length : Nat) : Int)) ∧ Below W'.heap.size W' w' := fun W' hW' => by
      have := ref_Behind p c L hL (endL k (es.take i)) 1 hle (by decide) W' (hR.mono (hW'.le .here)) (fun x hx => (hB x hx).mono (hW'.le .here))
      rw [hnx] at this
      exact this
    clear hsp hdr2 hnx hok hdr hR hB htk he
    generalize hP : posE k (es.take i) = P at hcall hps ⊢
    generalize hE : endL k (es.take i) = E at hcall hen hle hps ⊢
    ((repeat' (first|refine zza ?_|refine zc9 ?_|refine zzb fun w hw => ?_|refine zzh fun _ => ?_|refine zzi fun _ _ => ?_|refine zzj (fun _ => ?_) fun _ => ?_)); (repeat' (refine CW_seq ?_; (repeat' (first|refine zza ?_|refine zc9 ?_|refine zzb fun w hw => ?_|refine zzh fun _ => ?_|refine zzi fun _ _ => ?_|refine zzj (fun _ => ?_) fun _ => ?_)))))
    (apply WL_callV; rfl; rfl; rfl; (intro W hW; exact hcall W hW))
    clear hcall
    ((repeat' (first|refine zza ?_|refine zc9 ?_|refine zzb fun w hw => ?_|refine zzh fun _ => ?_|refine zzi fun _ _ => ?_|refine zzj (fun _ => ?_) fun _ => ?_)); (repeat' (refine CW_seq ?_; (repeat' (first|refine zza ?_|refine zc9 ?_|refine zzb fun w hw => ?_|refine zzh fun _ => ?_|refine zzi fun _ _ => ?_|refine zzj (fun _ => ?_) fun _ => ?_)))))
    rename_i b3 q3 c3
    refine EX_loop' (i + 1, q3, c3) ⟨?_, ?_, by dsimp only; omega, by dsimp only; omega⟩
    · dsimp only
      rw [hen]
      exact zcov
    · dsimp only
      rw [hps, List.map_append]
      exact zent
  · have hil : i = es.length := by omega
    subst hil
    rw [List.take_length]
    clear hok hdr hR hB
    rw [← flatI]
    ((repeat' (first|refine zza ?_|refine zc9 ?_|refine zzb fun w hw => ?_|refine zzh fun _ => ?_|refine zzi fun _ _ => ?_|refine zzj (fun _ => ?_) fun _ => ?_)); (repeat' (refine CW_seq ?_; (repeat' (first|refine zza ?_|refine zc9 ?_|refine zzb fun w hw => ?_|refine zzh fun _ => ?_|refine zzi fun _ _ => ?_|refine zzj (fun _ => ?_) fun _ => ?_)))))
    exact tells_sl1 (enc := encI) (sz := 1) (V := fun x : Option Addr × Nat => .slice x.1 (es.length + 1) x.2) (xs := posE k es) (fun _ => rfl) (by decide) (q, cq) rfl hw (fun G' hg r1 => r1)
end Go.Proofs.YtngeooflfkpikaaGreatDoor
