/-
  ravelinref4: pieceOf: the piece of an expression.
-/
import Derived.Test.YtngeooflfkpikaaGreatDoorYGo
import Derived.Test.YtngeooflfkpikaaGreatDoorYRefPiece
namespace Go.Proofs.YtngeooflfkpikaaGreatDoor
open Go.RowKit
/-- those that wait, as the reference has them -/
def wsE (k : Nat) (e : Ex) : List (Int × Int) := (e.waits 0 k).map fun w => ((w.pos : Int), w.n)
mutual
theorem Ex.waits_o : ∀ (e : Ex) (o o' k : Nat), (e.waits o k).map (fun w => ((w.pos : Int), w.n)) = (e.waits o' k).map (fun w => ((w.pos : Int), w.n))
  | .leaf _, _, _, _ => rfl
  | .one n b r, o, o', k => by
    simp only [Ex.waits, List.map_append, Ex.waits_o r o o']
    congr 1
    unfold actW
    split <;> rfl
  | .two n l b r, o, o', k => by
    simp only [Ex.waits, List.map_append, Ex.waits_o r o o', Ex.waits_o l (o + (r.code 0).length) (o' + (r.code 0).length)]
    congr 2
    unfold actW
    split <;> rfl
  | .pick n e b, o, o', k => by
    simp only [Ex.waits, List.map_append, Exs.waitsR_o b o o', Ex.waits_o e (o + (b.codeR 0).length) (o' + (b.codeR 0).length)]
theorem Exs.waitsR_o : ∀ (b : Exs) (o o' k : Nat), (b.waitsR o k).map (fun w => ((w.pos : Int), w.n)) = (b.waitsR o' k).map (fun w => ((w.pos : Int), w.n))
  | .nil, _, _, _ => rfl
  | .cons e r, o, o', k => by
    simp only [Exs.waitsR, List.map_append, Exs.waitsR_o r o o', Ex.waits_o e (o + (r.codeR 0).length) (o' + (r.codeR 0).length)]
end
mutual
theorem Ex.pcs_le : ∀ (e : Ex) (k : Nat), e.pcs.length ≤ e.flat.length ∧ (e.waits 0 k).length ≤ e.flat.length
  | .leaf n, k => ⟨Nat.le_refl _, Nat.zero_le _⟩
  | .one n b r, k => by
    have h1 := Ex.pcs_le r (k + 1 + b.flat.length)
    have h2 : ∀ o, (actW n b (k + 1) o).length ≤ 1 := fun o => by unfold actW; split <;> simp
    have h3 := h2 (0 + (r.code 0).length)
    simp only [Ex.pcs, Ex.waits, Ex.flat, List.length_append, List.length_cons, List.length_nil]
    omega
  | .two n l b r, k => by
    have h1 := Ex.pcs_le r (k + 1 + l.flat.length + b.flat.length)
    have h4 := Ex.pcs_le l (k + 1)
    have h5 := congrArg List.length (Ex.waits_o l 0 (0 + (r.code 0).length) (k + 1))
    simp only [List.length_map] at h5
    have h2 : ∀ p o, (actW n b p o).length ≤ 1 := fun p o => by unfold actW; split <;> simp
    have h3 := h2 (k + 1 + l.flat.length) (0 + (r.code 0).length + (l.code 0).length)
    simp only [Ex.pcs, Ex.waits, Ex.flat, List.length_append, List.length_cons, List.length_nil]
    omega
  | .pick n e b, k => by
    have h1 := Exs.pcsR_le b (k + 1 + e.flat.length)
    have h4 := Ex.pcs_le e (k + 1)
    have h5 := congrArg List.length (Ex.waits_o e 0 (0 + (b.codeR 0).length) (k + 1))
    simp only [List.length_map] at h5
    simp only [Ex.pcs, Ex.waits, Ex.flat, List.length_append, List.length_cons, List.length_nil]
    omega
theorem Exs.pcsR_le : ∀ (b : Exs) (k : Nat), b.pcsR.length ≤ b.flat.length ∧ (b.waitsR 0 k).length ≤ b.flat.length
  | .nil, _ => ⟨Nat.le_refl _, Nat.le_refl _⟩
  | .cons e r, k => by
    have h1 := Exs.pcsR_le r (k + e.flat.length)
    have h4 := Ex.pcs_le e k
    have h5 := congrArg List.length (Ex.waits_o e 0 (0 + (r.codeR 0).length) k)
    simp only [List.length_map] at h5
    simp only [Exs.pcsR, Exs.waitsR, Exs.flat, List.length_append]
    omega
end
/-- the contract of an expression's piece -/
def PcsC (e : Ex) : Prop := ∀ (p : Option Addr) (c : Nat) (L : List NodM) (k d : Nat) (rest : List Nod) (G : Rd) (W : World), e.ok d → (L.map NodM.nod).drop k = e.flat ++ rest → L.length ≤ 400 → Row nodE 7 G p c L → (∀ x ∈ L, NodG G x) → Rd.sub G [] W →
  Calls Tryz.prog 23 #[.slice p L.length c, .int .i64 (k : Nat)] W (Tells (pcV (wsE k e)) (PcR e.pcs (wsE k e)) G W)
noncomputable abbrev pcode : Code := (Tryz.f23.body).getD .skip
abbrev pnB (b : Nat) (op aop af ag n : Int) (nums : SlV Int) (text : List UInt8) : HP := blk b 44 #[.int .i64 op, .int .i64 aop, .int .i64 af, .int .i64 ag, .int .i64 n, .slice nums.p nums.xs.length nums.c, .string ⟨text.toArray⟩]
abbrev pcB (b : Nat) (v1 v2 : Value) : HP := blk b 67 #[v1, v2]
def PRest (code : List Ins) (ws : List (Int × Int)) (p : Option Addr) (c : Nat) (L : List NodM) (k : Nat) (G : Rd) (W : World) (op aop af ag n : Int) (nums : SlV Int) (text : List UInt8) : Prop := ∀ b4 b5, CW Tryz.prog ⟨152, [], W, []⟩ (QBody Tryz.prog Tryz.f23 (Tells (pcV ws) (PcR code ws) G W)) (cP [1, 1] pcode) [(0, .slice p L.length c), (1, .int .i64 (k : Nat)), (4, .pointer (some ⟨b4, 0, none⟩)), (5, .pointer (some ⟨b5, 0, none⟩))]
  [pnB b5 op aop af ag n nums text, pcB b4 (.slice none 0 0) (.slice none 0 0), ro W [] G]
set_option maxHeartbeats 8000000 in
set_option maxRecDepth 100000 in
theorem pcs_enter {code : List Ins} {ws : List (Int × Int)} {p : Option Addr} {c : Nat} {L : List NodM} {k : Nat} {G : Rd} {W : World} {op aop af ag n : Int} {nums : SlV Int} {text : List UInt8} (hx : L[k]? = some ⟨op, aop, af, ag, n, nums, text⟩) (_hL : L.length ≤ 400) (hR : Row nodE 7 G p c L) (hS : Rd.sub G [] W) (h : PRest code ws p c L k G W op aop af ag n nums text) :
    Calls Tryz.prog 23 #[.slice p L.length c, .int .i64 (k : Nat)] W (Tells (pcV ws) (PcR code ws) G W) := by
  have hk : k < L.length := (List.getElem?_eq_some_iff.1 hx).1
  refine enterR (args := [_, _]) (m := []) (F := []) hS rfl Tryz.func23 rfl Tryz.ntmps23 (by simp) ?_
  repeat' (first | exact CW_cov zcov (CW_ent (Ent.consK (k := Ent.cons .here (Ent.cons .here Ent.nil)) .here) (h _ _)) | refine zza ?_ | refine zzh fun _ => ?_)
set_option maxHeartbeats 8000000 in
set_option maxRecDepth 100000 in
theorem pcs_nums (p : Option Addr) (c : Nat) (L : List NodM) (k : Nat) (G : Rd) (W : World) (aop af ag n : Int) (nums : SlV Int) (text : List UInt8) (hn : Row encI 1 G nums.p nums.c nums.xs) (hl : nums.xs.length ≤ 4294967280) :
    PRest [⟨1, 0, 0, 0, 0, 0, nums.xs, []⟩] [] p c L k G W 1 aop af ag n nums text := by
  intro b4 b5
  conv =>
    pattern cP _ _
    whnf
  ((repeat' (first|refine zza ?_|refine zc9 ?_|refine zzb fun w hw => ?_|refine zzh fun _ => ?_|refine zzi fun _ _ => ?_|refine zzj (fun _ => ?_) fun _ => ?_)); (repeat' (refine CW_seq ?_; (repeat' (first|refine zza ?_|refine zc9 ?_|refine zzb fun w hw => ?_|refine zzh fun _ => ?_|refine zzi fun _ _ => ?_|refine zzj (fun _ => ?_) fun _ => ?_)))))
  refine WL_callT (r := [pnB b5 1 aop af ag n nums text, pcB b4 (.slice none 0 0) (.slice none 0 0)]) (Ent.cons zpk (Ent.cons zpk (Ent.cons zpk Ent.nil))) rfl rfl rfl (fun W hS => ref_single ⟨1, 0, 0, 0, 0, 0, nums, []⟩ G W hS ⟨by simp, hn, hl⟩) ?_
  intro x1 G1 h1 g1
  ((repeat' (first|refine zza ?_|refine zc9 ?_|refine zzb fun w hw => ?_|refine zzh fun _ => ?_|refine zzi fun _ _ => ?_|refine zzj (fun _ => ?_) fun _ => ?_)); (repeat' (refine CW_seq ?_; (repeat' (first|refine zza ?_|refine zc9 ?_|refine zzb fun w hw => ?_|refine zzh fun _ => ?_|refine zzi fun _ _ => ?_|refine zzj (fun _ => ?_) fun _ => ?_)))))
  exact ⟨x1, G1, h1, rfl, g1, hw.ent (Ent.cons zpk Ent.nil)⟩
set_option maxHeartbeats 8000000 in
set_option maxRecDepth 100000 in
theorem pcs_text (p : Option Addr) (c : Nat) (L : List NodM) (k : Nat) (G : Rd) (W : World) (aop af ag n : Int) (nums : SlV Int) (text : List UInt8) (hl : text.length ≤ 4294967280) :
    PRest [⟨2, 0, 0, 0, 0, 0, [], text⟩] [] p c L k G W 2 aop af ag n nums text := by
  intro b4 b5
  conv =>
    pattern cP _ _
    whnf
  ((repeat' (first|refine zza ?_|refine zc9 ?_|refine zzb fun w hw => ?_|refine zzh fun _ => ?_|refine zzi fun _ _ => ?_|refine zzj (fun _ => ?_) fun _ => ?_)); (repeat' (refine CW_seq ?_; (repeat' (first|refine zza ?_|refine zc9 ?_|refine zzb fun w hw => ?_|refine zzh fun _ => ?_|refine zzi fun _ _ => ?_|refine zzj (fun _ => ?_) fun _ => ?_)))))
  refine WL_callT (r := [pnB b5 2 aop af ag n nums text, pcB b4 (.slice none 0 0) (.slice none 0 0)]) (Ent.cons zpk (Ent.cons zpk (Ent.cons zpk Ent.nil))) rfl rfl rfl (fun W hS => ref_single ⟨2, 0, 0, 0, 0, 0, ⟨none, 0, []⟩, text⟩ G W hS ⟨hl, Row.nil _ _ _, by simp⟩) ?_
  intro x1 G1 h1 g1
  ((repeat' (first|refine zza ?_|refine zc9 ?_|refine zzb fun w hw => ?_|refine zzh fun _ => ?_|refine zzi fun _ _ => ?_|refine zzj (fun _ => ?_) fun _ => ?_)); (repeat' (refine CW_seq ?_; (repeat' (first|refine zza ?_|refine zc9 ?_|refine zzb fun w hw => ?_|refine zzh fun _ => ?_|refine zzi fun _ _ => ?_|refine zzj (fun _ => ?_) fun _ => ?_)))))
  exact ⟨x1, G1, h1, rfl, g1, hw.ent (Ent.cons zpk Ent.nil)⟩
set_option maxHeartbeats 8000000 in
set_option maxRecDepth 100000 in
theorem pcs_name (p : Option Addr) (c : Nat) (L : List NodM) (k : Nat) (G : Rd) (W : World) (aop af ag n : Int) (nums : SlV Int) (text : List UInt8) (hl : text.length ≤ 4294967280) :
    PRest [⟨3, 0, 0, 0, 0, 0, [], text⟩] [] p c L k G W 3 aop af ag n nums text := by
  intro b4 b5
  conv =>
    pattern cP _ _
    whnf
  ((repeat' (first|refine zza ?_|refine zc9 ?_|refine zzb fun w hw => ?_|refine zzh fun _ => ?_|refine zzi fun _ _ => ?_|refine zzj (fun _ => ?_) fun _ => ?_)); (repeat' (refine CW_seq ?_; (repeat' (first|refine zza ?_|refine zc9 ?_|refine zzb fun w hw => ?_|refine zzh fun _ => ?_|refine zzi fun _ _ => ?_|refine zzj (fun _ => ?_) fun _ => ?_)))))
  refine WL_callT (r := [pnB b5 3 aop af ag n nums text, pcB b4 (.slice none 0 0) (.slice none 0 0)]) (Ent.cons zpk (Ent.cons zpk (Ent.cons zpk Ent.nil))) rfl rfl rfl (fun W hS => ref_single ⟨3, 0, 0, 0, 0, 0, ⟨none, 0, []⟩, text⟩ G W hS ⟨hl, Row.nil _ _ _, by simp⟩) ?_
  intro x1 G1 h1 g1
  ((repeat' (first|refine zza ?_|refine zc9 ?_|refine zzb fun w hw => ?_|refine zzh fun _ => ?_|refine zzi fun _ _ => ?_|refine zzj (fun _ => ?_) fun _ => ?_)); (repeat' (refine CW_seq ?_; (repeat' (first|refine zza ?_|refine zc9 ?_|refine zzb fun w hw => ?_|refine zzh fun _ => ?_|refine zzi fun _ _ => ?_|refine zzj (fun _ => ?_) fun _ => ?_)))))
  exact ⟨x1, G1, h1, rfl, g1, hw.ent (Ent.cons zpk Ent.nil)⟩
set_option maxHeartbeats 8000000 in
set_option maxRecDepth 100000 in
theorem pcs_alpha (p : Option Addr) (c : Nat) (L : List NodM) (k : Nat) (G : Rd) (W : World) (aop af ag n : Int) (nums : SlV Int) (text : List UInt8) :
    PRest [ins0 4] [] p c L k G W 4 aop af ag n nums text := by
  intro b4 b5
  conv =>
    pattern cP _ _
    whnf
  ((repeat' (first|refine zza ?_|refine zc9 ?_|refine zzb fun w hw => ?_|refine zzh fun _ => ?_|refine zzi fun _ _ => ?_|refine zzj (fun _ => ?_) fun _ => ?_)); (repeat' (refine CW_seq ?_; (repeat' (first|refine zza ?_|refine zc9 ?_|refine zzb fun w hw => ?_|refine zzh fun _ => ?_|refine zzi fun _ _ => ?_|refine zzj (fun _ => ?_) fun _ => ?_)))))
  refine WL_callT (r := [pnB b5 4 aop af ag n nums text, pcB b4 (.slice none 0 0) (.slice none 0 0)]) (Ent.cons zpk (Ent.cons zpk (Ent.cons zpk Ent.nil))) rfl rfl rfl (fun W hS => ref_single ⟨4, 0, 0, 0, 0, 0, ⟨none, 0, []⟩, []⟩ G W hS ⟨by simp, Row.nil _ _ _, by simp⟩) ?_
  intro x1 G1 h1 g1
  ((repeat' (first|refine zza ?_|refine zc9 ?_|refine zzb fun w hw => ?_|refine zzh fun _ => ?_|refine zzi fun _ _ => ?_|refine zzj (fun _ => ?_) fun _ => ?_)); (repeat' (refine CW_seq ?_; (repeat' (first|refine zza ?_|refine zc9 ?_|refine zzb fun w hw => ?_|refine zzh fun _ => ?_|refine zzi fun _ _ => ?_|refine zzj (fun _ => ?_) fun _ => ?_)))))
  exact ⟨x1, G1, h1, rfl, g1, hw.ent (Ent.cons zpk Ent.nil)⟩
set_option maxHeartbeats 8000000 in
set_option maxRecDepth 100000 in
theorem pcs_omega (p : Option Addr) (c : Nat) (L : List NodM) (k : Nat) (G : Rd) (W : World) (aop af ag n : Int) (nums : SlV Int) (text : List UInt8) :
    PRest [ins0 5] [] p c L k G W 5 aop af ag n nums text := by
  intro b4 b5
  conv =>
    pattern cP _ _
    whnf
  ((repeat' (first|refine zza ?_|refine zc9 ?_|refine zzb fun w hw => ?_|refine zzh fun _ => ?_|refine zzi fun _ _ => ?_|refine zzj (fun _ => ?_) fun _ => ?_)); (repeat' (refine CW_seq ?_; (repeat' (first|refine zza ?_|refine zc9 ?_|refine zzb fun w hw => ?_|refine zzh fun _ => ?_|refine zzi fun _ _ => ?_|refine zzj (fun _ => ?_) fun _ => ?_)))))
  refine WL_callT (r := [pnB b5 5 aop af ag n nums text, pcB b4 (.slice none 0 0) (.slice none 0 0)]) (Ent.cons zpk (Ent.cons zpk (Ent.cons zpk Ent.nil))) rfl rfl rfl (fun W hS => ref_single ⟨5, 0, 0, 0, 0, 0, ⟨none, 0, []⟩, []⟩ G W hS ⟨by simp, Row.nil _ _ _, by simp⟩) ?_
  intro x1 G1 h1 g1
  ((repeat' (first|refine zza ?_|refine zc9 ?_|refine zzb fun w hw => ?_|refine zzh fun _ => ?_|refine zzi fun _ _ => ?_|refine zzj (fun _ => ?_) fun _ => ?_)); (repeat' (refine CW_seq ?_; (repeat' (first|refine zza ?_|refine zc9 ?_|refine zzb fun w hw => ?_|refine zzh fun _ => ?_|refine zzi fun _ _ => ?_|refine zzj (fun _ => ?_) fun _ => ?_)))))
  exact ⟨x1, G1, h1, rfl, g1, hw.ent (Ent.cons zpk Ent.nil)⟩
theorem ref_joinS (a : List Ins) (i : Ins) (ws : List (Int × Int)) (x y : PcX) (G : Rd) (w : World) (hS : Rd.sub G [] w) (ha : PcR a ws x G) (hb : PcR [i] [] y G) (hl : a.length ≤ 400) (hl2 : ws.length ≤ 400) :
    Calls Tryz.prog 22 #[pcV ws x, pcV [] y] w (Tells (pcV ws) (PcR (a ++ [i]) ws) G w) := by
  have := ref_joinPieces a [i] ws [] x y G w hS ha hb (by simp; omega) (by simp; omega)
  rw [List.append_nil] at this
  exact this
abbrev pvs (x : PcX) (ws : List (Int × Int)) : Value × Value := (.slice x.2.1.1 x.1.length x.2.1.2, .slice x.2.2.1 ws.length x.2.2.2)
set_option maxHeartbeats 8000000 in
set_option maxRecDepth 100000 in
theorem pcs_tail (G0 G : Rd) (W : World) (g0 : Rd.grow W G0 G) (op aop af ag n : Int) (nums : SlV Int) (text : List UInt8) (b4 b5 b13 : Nat) (co : List Ins) (wo : List (Int × Int)) (x : PcX) (hx : PcR co wo x G) (hcl : co.length ≤ 400) (hwl : wo.length ≤ 400) (g : Int) (body : Nat) (code : List Ins) (ws : List (Int × Int)) (hc : code = co ++ [actN ⟨op, aop, af, ag, n, nums.xs, text⟩ g]) (hw : ws = wo ++ (if aop = 6 then [((body : Int), n)] else [])) :
    CW Tryz.prog ⟨152, [], W, []⟩ (QBody Tryz.prog Tryz.f23 (Tells (pcV ws) (PcR code ws) G0 W)) (cP [1, 1, 1, 1, 1, 1, 1, 1, 1, 1, 1, 1, 1, 1, 1, 1, 1] pcode) [(4, .pointer (some ⟨b4, 0, none⟩)), (5, .pointer (some ⟨b5, 0, none⟩)), (10, .int .i64 (body : Nat)), (13, .pointer (some ⟨b13, 0, none⟩)), (14, .int .i64 g), (15, .int .i64 (5 + g))]
      [pnB b5 op aop af ag n nums text, pcB b4 (.slice none 0 0) (.slice none 0 0), pcB b13 (pvs x wo).1 (pvs x wo).2, ro W [] G] := by
  conv =>
    pattern cP _ _
    whnf
  unfold actN at hc
  dsimp only at hc
  by_cases h7 : aop = 7
  · rw [if_neg (by omega), if_pos h7] at hc
    rw [if_neg (by omega), List.append_nil] at hw
    subst hc hw
    (repeat' ((fail_if_success refine zc8 ?_); (first|refine zza ?_|refine zzb fun w hw => ?_|refine zzh fun _ => ?_|refine zzi fun _ _ => ?_|refine zzj (fun _ => ?_) fun _ => ?_)))
    refine CW_perm 5 [0, 1, 2, 3, 4] [pcB b13 (pvs x ws).1 (pvs x ws).2] [] zcov (pm := [pnB b5 op aop af ag n nums text, pcB b4 (.slice none 0 0) (.slice none 0 0), ro W [] G]) (Ent.cons zpk (Ent.cons zpk (Ent.cons zpk (Ent.cons zpk Ent.nil)))) (by kernel_rfl) (by decide +kernel) (by kernel_rfl) ?_
    (refine WP_op rfl rfl rfl zyi ?_)
    (refine WP_op rfl rfl rfl zyi ?_)
    (refine WP_op rfl rfl rfl zyi ?_)
    refine WP_callT (r := [pnB b5 op aop af ag n nums text, pcB b4 (.slice none 0 0) (.slice none 0 0), pcB b13 (pvs x ws).1 (pvs x ws).2]) rfl (Ent.cons zpk (Ent.cons zpk (Ent.cons zpk (Ent.cons zpk Ent.nil)))) (by decide +kernel) rfl rfl rfl (fun W' hS => ref_single ⟨10, 0, 0, 0, g, -2, ⟨none, 0, []⟩, []⟩ G W' hS ⟨by simp, Row.nil _ _ _, by simp⟩) (fun G' _ => ⟨[ro W [] G', pnB b5 op aop af ag n nums text, pcB b4 (.slice none 0 0) (.slice none 0 0)], Ent.refl⟩) ?_
    intro x3 G3 h3 g3
    refine WP_callT (r := [pnB b5 op aop af ag n nums text, pcB b4 (.slice none 0 0) (.slice none 0 0), pcB b13 (pvs x ws).1 (pvs x ws).2]) rfl zent (by decide +kernel) rfl rfl rfl (fun W' hS => ref_joinS co (callI g (-2)) ws x x3 G3 W' hS (hx.mono g3.1) h3 hcl hwl) (fun G' _ => ⟨[ro W [] G', pnB b5 op aop af ag n nums text, pcB b4 (.slice none 0 0) (.slice none 0 0)], Ent.refl⟩) ?_
    intro x4 G4 h4 g4
    refine WP_end ?_
    ((repeat' (first|refine zza ?_|refine zc9 ?_|refine zzb fun w hw => ?_|refine zzh fun _ => ?_|refine zzi fun _ _ => ?_|refine zzj (fun _ => ?_) fun _ => ?_)); (repeat' (refine CW_seq ?_; (repeat' (first|refine zza ?_|refine zc9 ?_|refine zzb fun w hw => ?_|refine zzh fun _ => ?_|refine zzi fun _ _ => ?_|refine zzj (fun _ => ?_) fun _ => ?_)))))
    exact ⟨x4, G4, h4, rfl, Rd.grow_tr g0 (Rd.grow_tr g3 g4), hw.ent (Ent.cons zpk Ent.nil)⟩
  by_cases h6 : aop = 6
  · rw [if_pos h6] at hc hw
    subst hc hw
    ((repeat' (first|refine zza ?_|refine zc9 ?_|refine zzb fun w hw => ?_|refine zzh fun _ => ?_|refine zzi fun _ _ => ?_|refine zzj (fun _ => ?_) fun _ => ?_)); (repeat' (refine CW_seq ?_; (repeat' (first|refine zza ?_|refine zc9 ?_|refine zzb fun w hw => ?_|refine zzh fun _ => ?_|refine zzi fun _ _ => ?_|refine zzj (fun _ => ?_) fun _ => ?_)))))
    rename_i bi bw b16
    refine WL_row (enc := insE) (sz := 8) (r := [sl 76 2 (some ⟨bw, 0, none⟩) 1 1 ([((body : Int), n)].flatMap wtE), pnB b5 op aop af ag n nums text, pcB b4 (.slice none 0 0) (.slice none 0 0)]) (xs := [⟨10, 0, 0, 0, g, -1, ⟨none, 0, []⟩, []⟩]) (fun _ => rfl) (by decide) rfl (Ent.cons zpk (Ent.blkSlN (n := 1) (sz := 8) (xs := ([⟨10, 0, 0, 0, g, -1, ⟨none, 0, []⟩, []⟩] : List InsM).flatMap insE) (.there (.there .here)) (by kernel_rfl) rfl (by decide) (Ent.blkSlN (n := 1) (sz := 2) (xs := [((body : Int), n)].flatMap wtE) (.there .here) (by kernel_rfl) rfl (by decide) (Ent.cons (.there .here) (Ent.cons (.there .here) Ent.nil))))) ?_
    intro G1 g1 r1
    refine WL_row (enc := wtE) (sz := 2) (r := [pnB b5 op aop af ag n nums text, pcB b4 (.slice none 0 0) (.slice none 0 0)]) (xs := [((body : Int), n)]) (fun _ => rfl) (by decide) rfl Ent.refl ?_
    intro G2 g2 r2
    refine WL_callT (r := [pnB b5 op aop af ag n nums text, pcB b4 (.slice none 0 0) (.slice none 0 0)]) Ent.refl rfl rfl rfl (fun W hS => ref_joinPieces co [callI g (-1)] wo [((body : Int), n)] x ([⟨10, 0, 0, 0, g, -1, ⟨none, 0, []⟩, []⟩], (some ⟨bi, 0, none⟩, 1), (some ⟨bw, 0, none⟩, 1)) G2 W hS (hx.mono (Rd.le_trans g1.1 g2.1)) ⟨rfl, fun y hy => by
      obtain rfl := List.mem_singleton.1 hy
      exact ⟨by simp, Row.nil _ _ _, by simp⟩, r1.mono g2.1, r2⟩ (by simp; omega) (by simp; omega)) ?_
    intro x4 G4 h4 g4
    ((repeat' (first|refine zza ?_|refine zc9 ?_|refine zzb fun w hw => ?_|refine zzh fun _ => ?_|refine zzi fun _ _ => ?_|refine zzj (fun _ => ?_) fun _ => ?_)); (repeat' (refine CW_seq ?_; (repeat' (first|refine zza ?_|refine zc9 ?_|refine zzb fun w hw => ?_|refine zzh fun _ => ?_|refine zzi fun _ _ => ?_|refine zzj (fun _ => ?_) fun _ => ?_)))))
    exact ⟨x4, G4, h4, rfl, Rd.grow_tr g0 (Rd.grow_tr g1 (Rd.grow_tr g2 g4)), hw.ent (Ent.cons zpk Ent.nil)⟩
  rw [if_neg h6, if_neg h7] at hc
  rw [if_neg h6, List.append_nil] at hw
  subst hc hw
  (repeat' ((fail_if_success refine zc8 ?_); (first|refine zza ?_|refine zzb fun w hw => ?_|refine zzh fun _ => ?_|refine zzi fun _ _ => ?_|refine zzj (fun _ => ?_) fun _ => ?_)))
  refine CW_perm 6 [0, 1, 2, 3, 4, 5] [pnB b5 op aop af ag n nums text, pcB b13 (pvs x ws).1 (pvs x ws).2] [] zcov (pm := [pcB b4 (.slice none 0 0) (.slice none 0 0), ro W [] G]) (Ent.cons zpk (Ent.cons zpk (Ent.cons zpk (Ent.cons zpk Ent.nil)))) (by kernel_rfl) (by decide +kernel) (by kernel_rfl) ?_
  (refine WP_op rfl rfl rfl zyi ?_)
  (refine WP_op rfl rfl rfl zyi ?_)
  (refine WP_op rfl rfl rfl zyi ?_)
  (refine WP_op rfl rfl rfl zyi ?_)
  (refine WP_op rfl rfl rfl zyi ?_)
  refine WP_callT (r := [pnB b5 op aop af ag n nums text, pcB b4 (.slice none 0 0) (.slice none 0 0), pcB b13 (pvs x ws).1 (pvs x ws).2]) rfl (Ent.cons zpk (Ent.cons zpk (Ent.cons zpk (Ent.cons zpk Ent.nil)))) (by decide +kernel) rfl rfl rfl (fun W' hS => ref_single ⟨5 + g, aop, af, ag, 0, 0, ⟨none, 0, []⟩, []⟩ G W' hS ⟨by simp, Row.nil _ _ _, by simp⟩) (fun G' _ => ⟨[ro W [] G', pcB b4 (.slice none 0 0) (.slice none 0 0)], Ent.cons .here (Ent.cons (.there .here) (Ent.cons .here (Ent.cons .here Ent.nil)))⟩) ?_
  intro x3 G3 h3 g3
  refine WP_end ?_
  refine WL_callT (r := [pnB b5 op aop af ag n nums text, pcB b4 (.slice none 0 0) (.slice none 0 0)]) (Ent.cons .here (Ent.cons .here (Ent.cons .here Ent.nil))) rfl rfl rfl (fun W' hS => ref_joinS co ⟨5 + g, aop, af, ag, 0, 0, [], []⟩ ws x x3 G3 W' hS (hx.mono g3.1) h3 hcl hwl) ?_
  intro x4 G4 h4 g4
  ((repeat' (first|refine zza ?_|refine zc9 ?_|refine zzb fun w hw => ?_|refine zzh fun _ => ?_|refine zzi fun _ _ => ?_|refine zzj (fun _ => ?_) fun _ => ?_)); (repeat' (refine CW_seq ?_; (repeat' (first|refine zza ?_|refine zc9 ?_|refine zzb fun w hw => ?_|refine zzh fun _ => ?_|refine zzi fun _ _ => ?_|refine zzj (fun _ => ?_) fun _ => ?_)))))
  exact ⟨x4, G4, h4, rfl, Rd.grow_tr g0 (Rd.grow_tr g3 g4), hw.ent (Ent.cons zpk Ent.nil)⟩
end Go.Proofs.YtngeooflfkpikaaGreatDoor
