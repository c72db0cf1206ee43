/-
  tree: the printer: brackets, functions, indices, any expression.
  tree: the printer: any expression.
-/
import Derived.Test.YtngeooflfkpikaaGreatDoorZGo
import Derived.Test.YtngeooflfkpikaaGreatDoorZPrint2
import Derived.Test.YtngeooflfkpikaaGreatDoorZPrintPlain
import Derived.Test.YtngeooflfkpikaaGreatDoorZRetC
import Derived.Test.YtngeooflfkpikaaGreatDoorZPerm
namespace Go.Proofs.YtngeooflfkpikaaGreatDoor
open Go.RowKit
/-- put is called with kinds that stand in the code -/
theorem WL_put {K : Cx} {ρ : Env} {m r : List HP} {ops : Array Oper} {Q : Exit → Act → World → Prop} {rest : List Oper} {d : Nat} {ty : TypeId} {pos : String} {aft : Array Edge} {g : Option (Nat × Bool)} {xs : List Operand} {ats : Array TypeId} {b bb n : Nat} {z : Option Addr × Nat} {ts : List Tok} {G : Rd} {cs : Array Value} (ks : List Int)
    (e : Ent m (ro K.w0 K.F G :: (prS b z ts ++ (blk bb 3 cs :: r)))) (hc : cs = (ks.map (Value.int .i64)).toArray) (hkn : ks.length = n) (hn1 : n ≤ 10) (ht : ts.length ≤ 990000000) (hx : opvs ρ xs = some [.pointer (some ⟨b, 0, none⟩), .slice (some ⟨bb, 0, none⟩) n n]) (hg : guardB ops g ρ = some true)
    (hn : (guardN K.N ops g && Nat.blt d K.N) = true)
    (k : ∀ z', WL Tryz.prog K ops Q rest ((d, .tuple #[]) :: ρ) (ro K.w0 K.F G :: (prS b z' (ts ++ ks.map tokK) ++ r))) : WL Tryz.prog K ops Q (⟨some d, .call ⟨.value (.func 91), xs.toArray, ats⟩, ty, pos, aft, g⟩ :: rest) ρ m := by
  subst hkn
  refine WL_ent e ?_
  dsimp only [prS, List.cons_append, List.nil_append]
  refine WL_ent (m' := ro K.w0 K.F G :: (prS b z ts ++ [sl 3 1 (some ⟨bb, 0, none⟩) ks.length ks.length (ks.map (Value.int .i64))] ++ r)) (Ent.cons .here (Ent.cons .here (Ent.cons .here (Ent.blkSl .here hc (by simp) (by omega) Ent.refl)))) ?_
  refine WL_callG (m1 := prS b z ts ++ [sl 3 1 (some ⟨bb, 0, none⟩) ks.length ks.length (ks.map (Value.int .i64))]) (r := r) (X := Option Addr × Nat) (V := fun _ => .tuple #[]) (Gx := fun _ => G) (M := fun z' => prS b z' (ts ++ ks.map tokK)) (I := fun _ => True) Ent.refl hx hg hn (fun W fp _ hO hS _ => (tree_pputO (some ⟨bb, 0, none⟩) ks.length ks b z ts G W fp (by omega) (by omega) hO hS).mono fun _ _ h => h.g) ?_
  intro z' _ _
  exact k z'
/-- glyph is called -/
theorem WL_pglyph {K : Cx} {ρ : Env} {m r : List HP} {ops : Array Oper} {Q : Exit → Act → World → Prop} {rest : List Oper} {d : Nat} {ty : TypeId} {pos : String} {aft : Array Edge} {g : Option (Nat × Bool)} {xs : List Operand} {ats : Array TypeId} {b : Nat} {z : Option Addr × Nat} {ts : List Tok} {G : Rd} (f : Int)
    (e : Ent m (ro K.w0 K.F G :: (prS b z ts ++ r))) (ht : ts.length ≤ 990000000) (hx : opvs ρ xs = some [.pointer (some ⟨b, 0, none⟩), .int .i64 f]) (hg : guardB ops g ρ = some true)
    (hn : (guardN K.N ops g && Nat.blt d K.N) = true)
    (k : ∀ z', WL Tryz.prog K ops Q rest ((d, .tuple #[]) :: ρ) (ro K.w0 K.F G :: (prS b z' (ts ++ [tokG f]) ++ r))) : WL Tryz.prog K ops Q (⟨some d, .call ⟨.value (.func 189), xs.toArray, ats⟩, ty, pos, aft, g⟩ :: rest) ρ m := by
  refine WL_callG (m1 := prS b z ts) (r := r) (X := Option Addr × Nat) (V := fun _ => .tuple #[]) (Gx := fun _ => G) (M := fun z' => prS b z' (ts ++ [tokG f])) (I := fun _ => True) e hx hg hn (fun W fp _ hO hS _ => (tree_pglyph f b z ts G W fp (by omega) hO hS).mono fun _ _ h => h.g) ?_
  intro z' _ _
  exact k z'
/-- some function of the printer is called -/
theorem WL_pr {K : Cx} {ρ : Env} {m r : List HP} {ops : Array Oper} {Q : Exit → Act → World → Prop} {rest : List Oper} {d : Nat} {ty : TypeId} {pos : String} {aft : Array Edge} {g : Option (Nat × Bool)} {f : FuncId} [S : FnT Tryz.prog f] {xs : List Operand} {ats : Array TypeId} {vs : List Value} {b : Nat} {z : Option Addr × Nat} {ts us : List Tok} {G : Rd}
    (e : Ent m (ro K.w0 K.F G :: (prS b z ts ++ r))) (hx : opvs ρ xs = some vs) (hg : guardB ops g ρ = some true)
    (hn : (guardN K.N ops g && Nat.blt d K.N) = true) (hc : ∀ W fp, Own (prS b z ts) fp W → Rd.sub G fp W → Calls Tryz.prog f vs.toArray W (PrGot b ts us G W fp))
    (k : ∀ z', WL Tryz.prog K ops Q rest ((d, .tuple #[]) :: ρ) (ro K.w0 K.F G :: (prS b z' (ts ++ us) ++ r))) : WL Tryz.prog K ops Q (⟨some d, .call ⟨.value (.func f), xs.toArray, ats⟩, ty, pos, aft, g⟩ :: rest) ρ m := by
  refine WL_callG (m1 := prS b z ts) (r := r) (X := Option Addr × Nat) (V := fun _ => .tuple #[]) (Gx := fun _ => G) (M := fun z' => prS b z' (ts ++ us)) (I := fun _ => True) e hx hg hn (fun W fp _ hO hS _ => (hc W fp hO hS).mono fun _ _ h => h.g) ?_
  intro z' _ _
  exact k z'
/-- the contract of an expression -/
def PrintC (e : Ex) : Prop := ∀ (G : Rd) (v : Value), e.rep G v → ∀ (b : Nat) (z : Option Addr × Nat) (ts : List Tok) (w : World) (fp : List Nat), ts.length + e.toks.length ≤ 900000000 → Own (prS b z ts) fp w → Rd.sub G fp w →
  Calls Tryz.prog 39 #[.pointer (some ⟨b, 0, none⟩), v] w (PrGot b ts e.toks G w fp)
theorem PrGot.of {b : Nat} {ts us : List Tok} {G : Rd} {w : World} {fp : List Nat} {w' : World} {z : Option Addr × Nat} (h : Holds w fp (ro w fp G :: prS b z (ts ++ us)) w') : PrGot b ts us G w fp (.returned (.tuple #[])) w' := ⟨z, trivial, rfl, h⟩
set_option maxHeartbeats 4000000 in
set_option maxRecDepth 100000 in
theorem tree_pclosed (e : Ex) (hC : PrintC e) (must : Bool) (v : Value) (G : Rd) (hv : e.rep G v) (b : Nat) (z : Option Addr × Nat) (ts : List Tok) (w : World) (fp : List Nat) (hx : ts.length + (closeT must e.toks).length ≤ 900000000) (hO : Own (prS b z ts) fp w) (hS : Rd.sub G fp w) :
    Calls Tryz.prog 93 #[.pointer (some ⟨b, 0, none⟩), v, .bool must] w (PrGot b ts (closeT must e.toks) G w fp) := by
  obtain ⟨T, u, rfl⟩ := Ex.rep_iface hv
  refine enterR (args := [_, _, _]) hS hO Tryz.func93 rfl Tryz.ntmps93 (by simp) ?_
  clear hO hS
  cases must with
  | false =>
    dsimp only [closeT, Bool.false_eq_true, if_false] at hx ⊢
    ((repeat' (first|refine zza ?_|refine zc9 ?_|refine zzb fun w hw => ?_|refine zzh fun _ => ?_|refine zzi fun _ _ => ?_|refine zzj (fun _ => ?_) fun _ => ?_)); (repeat' (refine CW_seq ?_; (repeat' (first|refine zza ?_|refine zc9 ?_|refine zzb fun w hw => ?_|refine zzh fun _ => ?_|refine zzi fun _ _ => ?_|refine zzj (fun _ => ?_) fun _ => ?_)))))
    refine WL_pr (b := b) (z := z) (ts := ts) (r := []) zent rfl rfl rfl (fun W fp' hO hS => hC G _ hv b z ts W fp' (by simpa [closeT] using hx) hO hS) fun z' => ?_
    ((repeat' (first|refine zza ?_|refine zc9 ?_|refine zzb fun w hw => ?_|refine zzh fun _ => ?_|refine zzi fun _ _ => ?_|refine zzj (fun _ => ?_) fun _ => ?_)); (repeat' (refine CW_seq ?_; (repeat' (first|refine zza ?_|refine zc9 ?_|refine zzb fun w hw => ?_|refine zzh fun _ => ?_|refine zzi fun _ _ => ?_|refine zzj (fun _ => ?_) fun _ => ?_)))))
    exact PrGot.of (hw.ent zent)
  | true =>
    have hl : (closeT true e.toks).length = e.toks.length + 2 := by simp [closeT]
    rw [hl] at hx
    ((repeat' (first|refine zza ?_|refine zc9 ?_|refine zzb fun w hw => ?_|refine zzh fun _ => ?_|refine zzi fun _ _ => ?_|refine zzj (fun _ => ?_) fun _ => ?_)); (repeat' (refine CW_seq ?_; (repeat' (first|refine zza ?_|refine zc9 ?_|refine zzb fun w hw => ?_|refine zzh fun _ => ?_|refine zzi fun _ _ => ?_|refine zzj (fun _ => ?_) fun _ => ?_)))))
    refine WL_put (b := b) (z := z) (ts := ts) (r := []) [5] zent rfl rfl (by decide) (by omega) rfl rfl rfl fun z' => ?_
    generalize hT : ts ++ [(5 : Int)].map tokK = T1
    have hTl : T1.length = ts.length + 1 := by rw [← hT]; simp
    ((repeat' (first|refine zza ?_|refine zc9 ?_|refine zzb fun w hw => ?_|refine zzh fun _ => ?_|refine zzi fun _ _ => ?_|refine zzj (fun _ => ?_) fun _ => ?_)); (repeat' (refine CW_seq ?_; (repeat' (first|refine zza ?_|refine zc9 ?_|refine zzb fun w hw => ?_|refine zzh fun _ => ?_|refine zzi fun _ _ => ?_|refine zzj (fun _ => ?_) fun _ => ?_)))))
    refine WL_pr (b := b) (z := z') (ts := T1) (r := []) zent rfl rfl rfl (fun W fp' hO hS => hC G _ hv b z' T1 W fp' (by omega) hO hS) fun z2 => ?_
    generalize hT2 : T1 ++ e.toks = T2
    have hTl2 : T2.length = ts.length + 1 + e.toks.length := by rw [← hT2, List.length_append, hTl]
    ((repeat' (first|refine zza ?_|refine zc9 ?_|refine zzb fun w hw => ?_|refine zzh fun _ => ?_|refine zzi fun _ _ => ?_|refine zzj (fun _ => ?_) fun _ => ?_)); (repeat' (refine CW_seq ?_; (repeat' (first|refine zza ?_|refine zc9 ?_|refine zzb fun w hw => ?_|refine zzh fun _ => ?_|refine zzi fun _ _ => ?_|refine zzj (fun _ => ?_) fun _ => ?_)))))
    refine WL_put (b := b) (z := z2) (ts := T2) (r := []) [6] zent rfl rfl (by decide) (by omega) rfl rfl rfl fun z3 => ?_
    ((repeat' (first|refine zza ?_|refine zc9 ?_|refine zzb fun w hw => ?_|refine zzh fun _ => ?_|refine zzi fun _ _ => ?_|refine zzj (fun _ => ?_) fun _ => ?_)); (repeat' (refine CW_seq ?_; (repeat' (first|refine zza ?_|refine zc9 ?_|refine zzb fun w hw => ?_|refine zzh fun _ => ?_|refine zzi fun _ _ => ?_|refine zzj (fun _ => ?_) fun _ => ?_)))))
    refine PrGot.of (z := z3) (hw.ent ?_)
    have e1 : T2 ++ [(6 : Int)].map tokK = ts ++ closeT true e.toks := by rw [← hT2, ← hT]; simp [closeT]
    rw [e1]
    exact zent
/-- words of a function that is no written one -/
theorem funT_in {n : Nod} (h3 : n.aop ≠ 3) (h7 : n.aop ≠ 7) (h6 : n.aop ≠ 6) (l : List Tok) : funT n l = tokG n.af :: (if n.aop = 1 then [tokG 33] else if n.aop = 2 then [tokG 34] else if n.aop = 5 then [tokK 13] else if n.aop = 4 then [tokK 12, tokG n.ag] else []) := by
  unfold funT
  rw [if_neg h3, if_neg h7, if_neg h6]
theorem Exs.of_rep_at' {G : Rd} : ∀ {es : List Ex} {vs : List Value}, (Exs.of es).rep G vs → vs.length = es.length ∧ ∀ (i : Nat) (e : Ex), es[i]? = some e → ∃ v, vs[i]? = some v ∧ e.rep G v
  | [], vs, h => by
    have : vs = [] := h
    subst this
    exact ⟨rfl, fun i e h => by simp at h⟩
  | e :: es, vs, h => by
    obtain ⟨v, t, rfl, h1, h2⟩ := h
    obtain ⟨h3, h4⟩ := Exs.of_rep_at' h2
    refine ⟨by simp [h3], fun i e' he => ?_⟩
    cases i with
    | zero => simp at he; subst he; exact ⟨v, rfl, h1⟩
    | succ i => exact h4 i e' (by simpa using he)
set_option maxHeartbeats 8000000 in
set_option maxRecDepth 100000 in
theorem tree_pfun (n : Nod) (es : List Ex) (hb : ∀ e ∈ es, PrintC e) (p : Option Addr) (c : Nat) (vs : List Value) (G : Rd) (hR : Row encV 1 G p c vs) (hr : (Exs.of es).rep G vs) (b : Nat) (z : Option Addr × Nat) (ts : List Tok) (w : World) (fp : List Nat) (hx : ts.length + (funT n ((Exs.of es).bodyT false)).length ≤ 900000000) (hO : Own (prS b z ts) fp w) (hS : Rd.sub G fp w) :
    Calls Tryz.prog 92 #[.pointer (some ⟨b, 0, none⟩), .agg #[.int .i64 n.aop, .int .i64 n.af, .int .i64 n.ag, .int .i64 n.n, .slice p vs.length c]] w (PrGot b ts (funT n ((Exs.of es).bodyT false)) G w fp) := by
  refine enterR (args := [_, _]) hS hO Tryz.func92 rfl Tryz.ntmps92 (by simp) ?_
  clear hO hS
  by_cases h6 : n.aop = 6
  · have hF : funT n ((Exs.of es).bodyT false) = tokK 14 :: ((Exs.of es).bodyT false ++ [tokK 15]) := by
      unfold funT
      rw [if_neg (by omega), if_neg (by omega), if_pos h6]
    rw [hF] at hx ⊢
    simp only [List.length_cons, List.length_append, List.length_nil] at hx
    obtain ⟨hvl, hat⟩ := Exs.of_rep_at' hr
    have hRl := hR.len
    clear hF
    ((repeat' (first|refine zza ?_|refine zc9 ?_|refine zzb fun w hw => ?_|refine zzh fun _ => ?_|refine zzi fun _ _ => ?_|refine zzj (fun _ => ?_) fun _ => ?_)); (repeat' (refine CW_seq ?_; (repeat' (first|refine zza ?_|refine zc9 ?_|refine zzb fun w hw => ?_|refine zzh fun _ => ?_|refine zzi fun _ _ => ?_|refine zzj (fun _ => ?_) fun _ => ?_)))))
    rename_i bx bb
    refine WL_put (b := b) (z := z) (ts := ts) (r := [blk bx 168 #[.int .i64 n.aop, .int .i64 n.af, .int .i64 n.ag, .int .i64 n.n, .slice p vs.length c]]) [14] zent rfl rfl (by decide) (by omega) rfl rfl rfl fun z' => ?_
    ((repeat' (first|refine zza ?_|refine zc9 ?_|refine zzb fun w hw => ?_|refine zzh fun _ => ?_|refine zzi fun _ _ => ?_|refine zzj (fun _ => ?_) fun _ => ?_)); (repeat' (refine CW_seq ?_; (repeat' (first|refine zza ?_|refine zc9 ?_|refine zzb fun w hw => ?_|refine zzh fun _ => ?_|refine zzi fun _ _ => ?_|refine zzj (fun _ => ?_) fun _ => ?_)))))
    refine CW_loopK [(0,_),(3,_),(25,_),(26,_)] zcov (fun x : Nat × (Option Addr × Nat) × List Tok => [(27, .int .i64 (x.1 : Int))]) (fun x => ro w fp G :: (prS b x.2.1 x.2.2 ++ [blk bx 168 #[.int .i64 n.aop, .int .i64 n.af, .int .i64 n.ag, .int .i64 n.n, .slice p vs.length c]])) (fun x => x.1 ≤ vs.length ∧ x.2.2 ++ (Exs.of (es.drop x.1)).bodyT (decide (x.1 % 2 = 1)) = ts ++ [(14 : Int)].map tokK ++ (Exs.of es).bodyT false) (fun x => vs.length - x.1) (0, z', ts ++ [(14 : Int)].map tokK) ⟨Nat.zero_le _, rfl⟩ zcov zent ?_
    rintro ⟨i, zi, T⟩ ⟨hi, hT⟩
    dsimp only at hi hT ⊢
    have hTl := congrArg List.length hT
    simp only [List.length_append, List.length_map, List.length_singleton] at hTl
    by_cases hlt : i < vs.length
    · obtain ⟨e, he⟩ : ∃ e, es[i]? = some e := ⟨es[i]'(by omega), by simp [show i < es.length by omega]⟩
      obtain ⟨v, hv, hrep⟩ := hat i e he
      have hdr : es.drop i = e :: es.drop (i + 1) := (List.getElem?_eq_some_iff.1 he).2 ▸ List.drop_eq_getElem_cons (List.getElem?_eq_some_iff.1 he).1
      have hlen : (Exs.of (es.drop (i + 1))).len = es.length - (i + 1) := by rw [Exs.of_len, List.length_drop]
      rw [hdr, Exs.of, Exs.bodyT, hlen] at hT hTl
      rw [List.length_append, List.length_append] at hTl
      have hCe := hb e (List.mem_of_getElem? he)
      obtain ⟨Te, ue, rfl⟩ := Ex.rep_iface hrep
      clear hat hb
      ((repeat' (first|refine zza ?_|refine zc9 ?_|refine zzb fun w hw => ?_|refine zzh fun _ => ?_|refine zzi fun _ _ => ?_|refine zzj (fun _ => ?_) fun _ => ?_)); (repeat' (refine CW_seq ?_; (repeat' (first|refine zza ?_|refine zc9 ?_|refine zzb fun w hw => ?_|refine zzh fun _ => ?_|refine zzi fun _ _ => ?_|refine zzj (fun _ => ?_) fun _ => ?_)))))
      refine WL_op rfl rfl (y_load (v := .iface Te ue) rfl (rd_row (enc := encV) (u := Value.iface Te ue) hR .here hv)) ?_
      ((repeat' (first|refine zza ?_|refine zc9 ?_|refine zzb fun w hw => ?_|refine zzh fun _ => ?_|refine zzi fun _ _ => ?_|refine zzj (fun _ => ?_) fun _ => ?_)); (repeat' (refine CW_seq ?_; (repeat' (first|refine zza ?_|refine zc9 ?_|refine zzb fun w hw => ?_|refine zzh fun _ => ?_|refine zzi fun _ _ => ?_|refine zzj (fun _ => ?_) fun _ => ?_)))))
      refine WL_pr (b := b) (z := zi) (ts := T) (r := [blk bx 168 #[.int .i64 n.aop, .int .i64 n.af, .int .i64 n.ag, .int .i64 n.n, .slice p vs.length c]]) zent rfl rfl rfl (fun W fp' hO hS => hCe G _ hrep b zi T W fp' (by omega) hO hS) fun z2 => ?_
      generalize hT2 : T ++ e.toks = T2 at *
      have hT2l : T2.length = T.length + e.toks.length := by rw [← hT2, List.length_append]
      rw [← List.append_assoc, hT2] at hT
      have hpar : (!decide (i % 2 = 1)) = decide ((i + 1) % 2 = 1) := by
        by_cases h : i % 2 = 1
        · rw [decide_eq_true h, decide_eq_false (by omega)]; rfl
        · rw [decide_eq_false h, decide_eq_true (by omega)]; rfl
      rw [hpar] at hT
      clear hpar hT2
      by_cases hlast : i + 1 = es.length
      · rw [if_pos (by omega), List.nil_append] at hT
        clear hTl
        ((repeat' (first|refine zza ?_|refine zc9 ?_|refine zzb fun w hw => ?_|refine zzh fun _ => ?_|refine zzi fun _ _ => ?_|refine zzj (fun _ => ?_) fun _ => ?_)); (repeat' (refine CW_seq ?_; (repeat' (first|refine zza ?_|refine zc9 ?_|refine zzb fun w hw => ?_|refine zzh fun _ => ?_|refine zzi fun _ _ => ?_|refine zzj (fun _ => ?_) fun _ => ?_)))))
        exact EX_loop' (i + 1, z2, T2) ⟨zcov, zent, by dsimp only; omega, by dsimp only; omega, hT⟩
      rw [if_neg (by omega)] at hT hTl
      by_cases hp : i % 2 = 1
      · rw [decide_eq_true hp, if_pos rfl] at hT hTl
        rw [List.length_singleton] at hTl
        have hT2b : T2.length ≤ 900000000 := by omega
        clear hTl hT2l
        have hmod : ¬ ((i : Int) % 2 = 0) := by omega
        ((repeat' (first|refine zza ?_|refine zc9 ?_|refine zzb fun w hw => ?_|refine zzh fun _ => ?_|refine zzi fun _ _ => ?_|refine zzj (fun _ => ?_) fun _ => ?_)); (repeat' (refine CW_seq ?_; (repeat' (first|refine zza ?_|refine zc9 ?_|refine zzb fun w hw => ?_|refine zzh fun _ => ?_|refine zzi fun _ _ => ?_|refine zzj (fun _ => ?_) fun _ => ?_)))))
        refine WL_put (b := b) (z := z2) (ts := T2) (r := [blk bx 168 #[.int .i64 n.aop, .int .i64 n.af, .int .i64 n.ag, .int .i64 n.n, .slice p vs.length c]]) [17] zent rfl rfl (by decide) (by omega) rfl rfl rfl fun z3 => ?_
        ((repeat' (first|refine zza ?_|refine zc9 ?_|refine zzb fun w hw => ?_|refine zzh fun _ => ?_|refine zzi fun _ _ => ?_|refine zzj (fun _ => ?_) fun _ => ?_)); (repeat' (refine CW_seq ?_; (repeat' (first|refine zza ?_|refine zc9 ?_|refine zzb fun w hw => ?_|refine zzh fun _ => ?_|refine zzi fun _ _ => ?_|refine zzj (fun _ => ?_) fun _ => ?_)))))
        exact EX_loop' (i + 1, z3, T2 ++ [(17 : Int)].map tokK) ⟨zcov, zent, by dsimp only; omega, by dsimp only; omega, by dsimp only; rw [List.append_assoc]; exact hT⟩
      · rw [decide_eq_false hp, if_neg (by decide)] at hT hTl
        rw [List.length_singleton] at hTl
        have hT2b : T2.length ≤ 900000000 := by omega
        clear hTl hT2l
        have hmod : (i : Int) % 2 = 0 := by omega
        ((repeat' (first|refine zza ?_|refine zc9 ?_|refine zzb fun w hw => ?_|refine zzh fun _ => ?_|refine zzi fun _ _ => ?_|refine zzj (fun _ => ?_) fun _ => ?_)); (repeat' (refine CW_seq ?_; (repeat' (first|refine zza ?_|refine zc9 ?_|refine zzb fun w hw => ?_|refine zzh fun _ => ?_|refine zzi fun _ _ => ?_|refine zzj (fun _ => ?_) fun _ => ?_)))))
        refine WL_put (b := b) (z := z2) (ts := T2) (r := [blk bx 168 #[.int .i64 n.aop, .int .i64 n.af, .int .i64 n.ag, .int .i64 n.n, .slice p vs.length c]]) [16] zent rfl rfl (by decide) (by omega) rfl rfl rfl fun z3 => ?_
        ((repeat' (first|refine zza ?_|refine zc9 ?_|refine zzb fun w hw => ?_|refine zzh fun _ => ?_|refine zzi fun _ _ => ?_|refine zzj (fun _ => ?_) fun _ => ?_)); (repeat' (refine CW_seq ?_; (repeat' (first|refine zza ?_|refine zc9 ?_|refine zzb fun w hw => ?_|refine zzh fun _ => ?_|refine zzi fun _ _ => ?_|refine zzj (fun _ => ?_) fun _ => ?_)))))
        exact EX_loop' (i + 1, z3, T2 ++ [(16 : Int)].map tokK) ⟨zcov, zent, by dsimp only; omega, by dsimp only; omega, by dsimp only; rw [List.append_assoc]; exact hT⟩
    · have hdn : es.drop i = [] := List.drop_eq_nil_of_le (by omega)
      rw [hdn, Exs.of, Exs.bodyT, List.append_nil] at hT
      have hTb : T.length ≤ 900000000 := by omega
      clear hTl hat hb hr hx
      ((repeat' (first|refine zza ?_|refine zc9 ?_|refine zzb fun w hw => ?_|refine zzh fun _ => ?_|refine zzi fun _ _ => ?_|refine zzj (fun _ => ?_) fun _ => ?_)); (repeat' (refine CW_seq ?_; (repeat' (first|refine zza ?_|refine zc9 ?_|refine zzb fun w hw => ?_|refine zzh fun _ => ?_|refine zzi fun _ _ => ?_|refine zzj (fun _ => ?_) fun _ => ?_)))))
      refine WL_put (b := b) (z := zi) (ts := T) (r := [blk bx 168 #[.int .i64 n.aop, .int .i64 n.af, .int .i64 n.ag, .int .i64 n.n, .slice p vs.length c]]) [15] zent rfl rfl (by decide) (by omega) rfl rfl rfl fun z3 => ?_
      ((repeat' (first|refine zza ?_|refine zc9 ?_|refine zzb fun w hw => ?_|refine zzh fun _ => ?_|refine zzi fun _ _ => ?_|refine zzj (fun _ => ?_) fun _ => ?_)); (repeat' (refine CW_seq ?_; (repeat' (first|refine zza ?_|refine zc9 ?_|refine zzb fun w hw => ?_|refine zzh fun _ => ?_|refine zzi fun _ _ => ?_|refine zzj (fun _ => ?_) fun _ => ?_)))))
      refine PrGot.of (z := z3) (hw.ent ?_)
      have e1 : T ++ [(15 : Int)].map tokK = ts ++ tokK 14 :: ((Exs.of es).bodyT false ++ [tokK 15]) := by rw [hT]; simp
      rw [e1]
      exact zent
  clear hb hr hR
  by_cases h7 : n.aop = 7
  · have hF : funT n ((Exs.of es).bodyT false) = [tokK 20] := by
      unfold funT
      rw [if_neg (by omega), if_pos h7]
    rw [hF] at hx ⊢
    clear hF
    rw [List.length_singleton] at hx
    ((repeat' (first|refine zza ?_|refine zc9 ?_|refine zzb fun w hw => ?_|refine zzh fun _ => ?_|refine zzi fun _ _ => ?_|refine zzj (fun _ => ?_) fun _ => ?_)); (repeat' (refine CW_seq ?_; (repeat' (first|refine zza ?_|refine zc9 ?_|refine zzb fun w hw => ?_|refine zzh fun _ => ?_|refine zzi fun _ _ => ?_|refine zzj (fun _ => ?_) fun _ => ?_)))))
    rename_i bx bb
    refine WL_put (b := b) (z := z) (ts := ts) (r := [blk bx 168 #[.int .i64 n.aop, .int .i64 n.af, .int .i64 n.ag, .int .i64 n.n, .slice p vs.length c]]) [20] zent rfl rfl (by decide) (by omega) rfl rfl rfl fun z' => ?_
    ((repeat' (first|refine zza ?_|refine zc9 ?_|refine zzb fun w hw => ?_|refine zzh fun _ => ?_|refine zzi fun _ _ => ?_|refine zzj (fun _ => ?_) fun _ => ?_)); (repeat' (refine CW_seq ?_; (repeat' (first|refine zza ?_|refine zc9 ?_|refine zzb fun w hw => ?_|refine zzh fun _ => ?_|refine zzi fun _ _ => ?_|refine zzj (fun _ => ?_) fun _ => ?_)))))
    exact PrGot.of (z := z') (hw.ent zent)
  by_cases h3 : n.aop = 3
  · have hF : funT n ((Exs.of es).bodyT false) = [tokK 11, tokK 12, tokG n.af] := by
      unfold funT
      rw [if_pos h3]
    rw [hF] at hx ⊢
    clear hF
    simp only [List.length_cons, List.length_nil] at hx
    ((repeat' (first|refine zza ?_|refine zc9 ?_|refine zzb fun w hw => ?_|refine zzh fun _ => ?_|refine zzi fun _ _ => ?_|refine zzj (fun _ => ?_) fun _ => ?_)); (repeat' (refine CW_seq ?_; (repeat' (first|refine zza ?_|refine zc9 ?_|refine zzb fun w hw => ?_|refine zzh fun _ => ?_|refine zzi fun _ _ => ?_|refine zzj (fun _ => ?_) fun _ => ?_)))))
    rename_i bx bb
    refine WL_put (b := b) (z := z) (ts := ts) (r := [blk bx 168 #[.int .i64 n.aop, .int .i64 n.af, .int .i64 n.ag, .int .i64 n.n, .slice p vs.length c]]) [11, 12] zent rfl rfl (by decide) (by omega) rfl rfl rfl fun z' => ?_
    generalize hT : ts ++ [(11 : Int), 12].map tokK = T
    have hTl : T.length = ts.length + 2 := by rw [← hT]; simp
    ((repeat' (first|refine zza ?_|refine zc9 ?_|refine zzb fun w hw => ?_|refine zzh fun _ => ?_|refine zzi fun _ _ => ?_|refine zzj (fun _ => ?_) fun _ => ?_)); (repeat' (refine CW_seq ?_; (repeat' (first|refine zza ?_|refine zc9 ?_|refine zzb fun w hw => ?_|refine zzh fun _ => ?_|refine zzi fun _ _ => ?_|refine zzj (fun _ => ?_) fun _ => ?_)))))
    refine WL_pglyph (b := b) (z := z') (ts := T) (r := [blk bx 168 #[.int .i64 n.aop, .int .i64 n.af, .int .i64 n.ag, .int .i64 n.n, .slice p vs.length c]]) n.af zent (by omega) rfl rfl rfl fun z2 => ?_
    ((repeat' (first|refine zza ?_|refine zc9 ?_|refine zzb fun w hw => ?_|refine zzh fun _ => ?_|refine zzi fun _ _ => ?_|refine zzj (fun _ => ?_) fun _ => ?_)); (repeat' (refine CW_seq ?_; (repeat' (first|refine zza ?_|refine zc9 ?_|refine zzb fun w hw => ?_|refine zzh fun _ => ?_|refine zzi fun _ _ => ?_|refine zzj (fun _ => ?_) fun _ => ?_)))))
    refine PrGot.of (z := z2) (hw.ent ?_)
    have e1 : T ++ [tokG n.af] = ts ++ [tokK 11, tokK 12, tokG n.af] := by rw [← hT]; simp
    rw [e1]
    exact zent
  rw [funT_in h3 h7 h6] at hx ⊢
  have hts : ts.length ≤ 900000000 := by omega
  clear hx
  ((repeat' (first|refine zza ?_|refine zc9 ?_|refine zzb fun w hw => ?_|refine zzh fun _ => ?_|refine zzi fun _ _ => ?_|refine zzj (fun _ => ?_) fun _ => ?_)); (repeat' (refine CW_seq ?_; (repeat' (first|refine zza ?_|refine zc9 ?_|refine zzb fun w hw => ?_|refine zzh fun _ => ?_|refine zzi fun _ _ => ?_|refine zzj (fun _ => ?_) fun _ => ?_)))))
  rename_i bx
  refine WL_pglyph (b := b) (z := z) (ts := ts) (r := [blk bx 168 #[.int .i64 n.aop, .int .i64 n.af, .int .i64 n.ag, .int .i64 n.n, .slice p vs.length c]]) n.af zent (by omega) rfl rfl rfl fun z1 => ?_
  generalize hT : ts ++ [tokG n.af] = T
  have hTl : T.length = ts.length + 1 := by rw [← hT]; simp
  have fin : ∀ (l : List Tok) (z' : Option Addr × Nat) (r : List HP) (W : World), Holds w fp (ro w fp G :: (prS b z' (T ++ l) ++ r)) W → PrGot b ts (tokG n.af :: l) G w fp (.returned (.tuple #[])) W := fun l z' r W hh => by
    refine PrGot.of (z := z') ?_
    have e1 : T ++ l = ts ++ tokG n.af :: l := by rw [← hT]; simp
    rw [← e1]
    exact hh.ent zent
  by_cases h1 : n.aop = 1
  · rw [if_pos h1]
    ((repeat' (first|refine zza ?_|refine zc9 ?_|refine zzb fun w hw => ?_|refine zzh fun _ => ?_|refine zzi fun _ _ => ?_|refine zzj (fun _ => ?_) fun _ => ?_)); (repeat' (refine CW_seq ?_; (repeat' (first|refine zza ?_|refine zc9 ?_|refine zzb fun w hw => ?_|refine zzh fun _ => ?_|refine zzi fun _ _ => ?_|refine zzj (fun _ => ?_) fun _ => ?_)))))
    refine WL_pglyph (b := b) (z := z1) (ts := T) (r := [blk bx 168 #[.int .i64 n.aop, .int .i64 n.af, .int .i64 n.ag, .int .i64 n.n, .slice p vs.length c]]) 33 zent (by omega) rfl rfl rfl fun z2 => ?_
    ((repeat' (first|refine zza ?_|refine zc9 ?_|refine zzb fun w hw => ?_|refine zzh fun _ => ?_|refine zzi fun _ _ => ?_|refine zzj (fun _ => ?_) fun _ => ?_)); (repeat' (refine CW_seq ?_; (repeat' (first|refine zza ?_|refine zc9 ?_|refine zzb fun w hw => ?_|refine zzh fun _ => ?_|refine zzi fun _ _ => ?_|refine zzj (fun _ => ?_) fun _ => ?_)))))
    exact fin _ z2 _ _ hw
  rw [if_neg h1]
  by_cases h2 : n.aop = 2
  · rw [if_pos h2]
    ((repeat' (first|refine zza ?_|refine zc9 ?_|refine zzb fun w hw => ?_|refine zzh fun _ => ?_|refine zzi fun _ _ => ?_|refine zzj (fun _ => ?_) fun _ => ?_)); (repeat' (refine CW_seq ?_; (repeat' (first|refine zza ?_|refine zc9 ?_|refine zzb fun w hw => ?_|refine zzh fun _ => ?_|refine zzi fun _ _ => ?_|refine zzj (fun _ => ?_) fun _ => ?_)))))
    refine WL_pglyph (b := b) (z := z1) (ts := T) (r := [blk bx 168 #[.int .i64 n.aop, .int .i64 n.af, .int .i64 n.ag, .int .i64 n.n, .slice p vs.length c]]) 34 zent (by omega) rfl rfl rfl fun z2 => ?_
    ((repeat' (first|refine zza ?_|refine zc9 ?_|refine zzb fun w hw => ?_|refine zzh fun _ => ?_|refine zzi fun _ _ => ?_|refine zzj (fun _ => ?_) fun _ => ?_)); (repeat' (refine CW_seq ?_; (repeat' (first|refine zza ?_|refine zc9 ?_|refine zzb fun w hw => ?_|refine zzh fun _ => ?_|refine zzi fun _ _ => ?_|refine zzj (fun _ => ?_) fun _ => ?_)))))
    exact fin _ z2 _ _ hw
  rw [if_neg h2]
  by_cases h5 : n.aop = 5
  · rw [if_pos h5]
    ((repeat' (first|refine zza ?_|refine zc9 ?_|refine zzb fun w hw => ?_|refine zzh fun _ => ?_|refine zzi fun _ _ => ?_|refine zzj (fun _ => ?_) fun _ => ?_)); (repeat' (refine CW_seq ?_; (repeat' (first|refine zza ?_|refine zc9 ?_|refine zzb fun w hw => ?_|refine zzh fun _ => ?_|refine zzi fun _ _ => ?_|refine zzj (fun _ => ?_) fun _ => ?_)))))
    refine WL_put (b := b) (z := z1) (ts := T) (r := [blk bx 168 #[.int .i64 n.aop, .int .i64 n.af, .int .i64 n.ag, .int .i64 n.n, .slice p vs.length c]]) [13] zent rfl rfl (by decide) (by omega) rfl rfl rfl fun z2 => ?_
    ((repeat' (first|refine zza ?_|refine zc9 ?_|refine zzb fun w hw => ?_|refine zzh fun _ => ?_|refine zzi fun _ _ => ?_|refine zzj (fun _ => ?_) fun _ => ?_)); (repeat' (refine CW_seq ?_; (repeat' (first|refine zza ?_|refine zc9 ?_|refine zzb fun w hw => ?_|refine zzh fun _ => ?_|refine zzi fun _ _ => ?_|refine zzj (fun _ => ?_) fun _ => ?_)))))
    exact fin _ z2 _ _ hw
  rw [if_neg h5]
  by_cases h4 : n.aop = 4
  · rw [if_pos h4]
    ((repeat' (first|refine zza ?_|refine zc9 ?_|refine zzb fun w hw => ?_|refine zzh fun _ => ?_|refine zzi fun _ _ => ?_|refine zzj (fun _ => ?_) fun _ => ?_)); (repeat' (refine CW_seq ?_; (repeat' (first|refine zza ?_|refine zc9 ?_|refine zzb fun w hw => ?_|refine zzh fun _ => ?_|refine zzi fun _ _ => ?_|refine zzj (fun _ => ?_) fun _ => ?_)))))
    refine WL_put (b := b) (z := z1) (ts := T) (r := [blk bx 168 #[.int .i64 n.aop, .int .i64 n.af, .int .i64 n.ag, .int .i64 n.n, .slice p vs.length c]]) [12] zent rfl rfl (by decide) (by omega) rfl rfl rfl fun z2 => ?_
    generalize hT4 : T ++ [(12 : Int)].map tokK = T4
    have hT4l : T4.length = ts.length + 2 := by rw [← hT4, List.length_append, hTl]; simp
    ((repeat' (first|refine zza ?_|refine zc9 ?_|refine zzb fun w hw => ?_|refine zzh fun _ => ?_|refine zzi fun _ _ => ?_|refine zzj (fun _ => ?_) fun _ => ?_)); (repeat' (refine CW_seq ?_; (repeat' (first|refine zza ?_|refine zc9 ?_|refine zzb fun w hw => ?_|refine zzh fun _ => ?_|refine zzi fun _ _ => ?_|refine zzj (fun _ => ?_) fun _ => ?_)))))
    refine WL_pglyph (b := b) (z := z2) (ts := T4) (r := [blk bx 168 #[.int .i64 n.aop, .int .i64 n.af, .int .i64 n.ag, .int .i64 n.n, .slice p vs.length c]]) n.ag zent (by omega) rfl rfl rfl fun z3 => ?_
    ((repeat' (first|refine zza ?_|refine zc9 ?_|refine zzb fun w hw => ?_|refine zzh fun _ => ?_|refine zzi fun _ _ => ?_|refine zzj (fun _ => ?_) fun _ => ?_)); (repeat' (refine CW_seq ?_; (repeat' (first|refine zza ?_|refine zc9 ?_|refine zzb fun w hw => ?_|refine zzh fun _ => ?_|refine zzi fun _ _ => ?_|refine zzj (fun _ => ?_) fun _ => ?_)))))
    refine fin _ z3 [blk bx 168 #[.int .i64 n.aop, .int .i64 n.af, .int .i64 n.ag, .int .i64 n.n, .slice p vs.length c]] _ ?_
    have e1 : T4 ++ [tokG n.ag] = T ++ [tokK 12, tokG n.ag] := by rw [← hT4]; simp
    rw [← e1]
    exact hw
  rw [if_neg h4]
  ((repeat' (first|refine zza ?_|refine zc9 ?_|refine zzb fun w hw => ?_|refine zzh fun _ => ?_|refine zzi fun _ _ => ?_|refine zzj (fun _ => ?_) fun _ => ?_)); (repeat' (refine CW_seq ?_; (repeat' (first|refine zza ?_|refine zc9 ?_|refine zzb fun w hw => ?_|refine zzh fun _ => ?_|refine zzi fun _ _ => ?_|refine zzj (fun _ => ?_) fun _ => ?_)))))
  refine fin [] z1 [blk bx 168 #[.int .i64 n.aop, .int .i64 n.af, .int .i64 n.ag, .int .i64 n.n, .slice p vs.length c]] _ ?_
  rw [List.append_nil]
  exact hw
end Go.Proofs.YtngeooflfkpikaaGreatDoor
namespace Go.Proofs.YtngeooflfkpikaaGreatDoor
open Go.RowKit
set_option maxHeartbeats 8000000 in
set_option maxRecDepth 100000 in
theorem print_leaf (n : Nod) : PrintC (.leaf n) := by
  intro G v hrep b z ts w fp hx hO hS
  unfold Ex.rep at hrep
  rcases hrep with ⟨h1, q, c, rfl, hR⟩ | ⟨h1, rfl⟩ | ⟨h1, rfl⟩ | ⟨h1, rfl⟩
  · have ht : (Ex.leaf n).toks = n.nums.map fun x => (⟨1, 0, x, [], 0⟩ : Tok) := by unfold Ex.toks; rw [if_pos h1]
    rw [ht] at hx ⊢
    rw [List.length_map] at hx
    refine enterR (args := [_, _]) hS hO Tryz.func39 rfl Tryz.ntmps39 (by simp) ?_
    clear hO hS ht
    ((repeat' (first|refine zza ?_|refine zc9 ?_|refine zzb fun w hw => ?_|refine zzh fun _ => ?_|refine zzi fun _ _ => ?_|refine zzj (fun _ => ?_) fun _ => ?_)); (repeat' (refine CW_seq ?_; (repeat' (first|refine zza ?_|refine zc9 ?_|refine zzb fun w hw => ?_|refine zzh fun _ => ?_|refine zzi fun _ _ => ?_|refine zzj (fun _ => ?_) fun _ => ?_)))))
    rename_i bx
    refine CW_loopK [(0,_),(21,_),(22,_)] zcov (fun x : Nat × (Option Addr × Nat) × List Tok => [(23, .int .i64 (x.1 : Int))]) (fun x => ro w fp G :: (prS b x.2.1 x.2.2)) (fun x => x.1 ≤ n.nums.length ∧ x.2.2 ++ (n.nums.drop x.1).map (fun x => (⟨1, 0, x, [], 0⟩ : Tok)) = ts ++ n.nums.map (fun x => (⟨1, 0, x, [], 0⟩ : Tok))) (fun x => n.nums.length - x.1) (0, z, ts) ⟨Nat.zero_le _, rfl⟩ zcov zent ?_
    rintro ⟨i, ⟨q1, c1⟩, T⟩ ⟨hi, hT⟩
    dsimp only at hi hT ⊢
    have hTl := congrArg List.length hT
    simp only [List.length_append, List.length_map] at hTl
    have hTb : T.length ≤ 900000000 := by omega
    clear hTl
    by_cases hlt : i < n.nums.length
    · obtain ⟨u, hu⟩ : ∃ u, n.nums[i]? = some u := ⟨n.nums[i], by simp [hlt]⟩
      have hdr : n.nums.drop i = u :: n.nums.drop (i + 1) := (List.getElem?_eq_some_iff.1 hu).2 ▸ List.drop_eq_getElem_cons (List.getElem?_eq_some_iff.1 hu).1
      rw [hdr, List.map_cons] at hT
      have hT2 : (T ++ [(⟨1, 0, u, [], 0⟩ : Tok)]) ++ (n.nums.drop (i + 1)).map (fun x => (⟨1, 0, x, [], 0⟩ : Tok)) = ts ++ n.nums.map (fun x => (⟨1, 0, x, [], 0⟩ : Tok)) := by rw [List.append_assoc]; exact hT
      clear hT hdr
      dsimp only [prS]
      ((repeat' (first|refine zza ?_|refine zc9 ?_|refine zzb fun w hw => ?_|refine zzh fun _ => ?_|refine zzi fun _ _ => ?_|refine zzj (fun _ => ?_) fun _ => ?_)); (repeat' (refine CW_seq ?_; (repeat' (first|refine zza ?_|refine zc9 ?_|refine zzb fun w hw => ?_|refine zzh fun _ => ?_|refine zzi fun _ _ => ?_|refine zzj (fun _ => ?_) fun _ => ?_)))))
      refine WL_op rfl rfl (y_load rfl (rd_row (enc := encI) hR .here hu)) ?_
      ((repeat' (first|refine zza ?_|refine zc9 ?_|refine zzb fun w hw => ?_|refine zzh fun _ => ?_|refine zzi fun _ _ => ?_|refine zzj (fun _ => ?_) fun _ => ?_)); (repeat' (refine CW_seq ?_; (repeat' (first|refine zza ?_|refine zc9 ?_|refine zzb fun w hw => ?_|refine zzh fun _ => ?_|refine zzi fun _ _ => ?_|refine zzj (fun _ => ?_) fun _ => ?_)))))
      rename_i b3 q' c2
      refine EX_loop' (i + 1, (q', c2), T ++ [⟨1, 0, u, [], 0⟩]) ⟨zcov, ?_, by dsimp only; omega, by dsimp only; omega, hT2⟩
      dsimp only [prS, tsl]
      rw [List.length_append, List.length_singleton, ← tsl_snoc]
      exact zent
    · have hdn : n.nums.drop i = [] := List.drop_eq_nil_of_le (by omega)
      rw [hdn, List.map_nil, List.append_nil] at hT
      ((repeat' (first|refine zza ?_|refine zc9 ?_|refine zzb fun w hw => ?_|refine zzh fun _ => ?_|refine zzi fun _ _ => ?_|refine zzj (fun _ => ?_) fun _ => ?_)); (repeat' (refine CW_seq ?_; (repeat' (first|refine zza ?_|refine zc9 ?_|refine zzb fun w hw => ?_|refine zzh fun _ => ?_|refine zzi fun _ _ => ?_|refine zzj (fun _ => ?_) fun _ => ?_)))))
      refine PrGot.of (z := (q1, c1)) ?_
      rw [← hT]
      exact hw.ent zent
  · have ht : (Ex.leaf n).toks = [⟨2, 0, 0, n.text, 0⟩] := by unfold Ex.toks; rw [if_neg (by omega), if_pos h1]
    rw [ht] at hx ⊢
    rw [List.length_singleton] at hx
    refine enterR (args := [_, _]) hS hO Tryz.func39 rfl Tryz.ntmps39 (by simp) ?_
    clear hO hS ht
    (repeat' (first|refine zza ?_|refine zzb fun w hw => ?_|refine zzh fun _ => ?_|refine zzi fun _ _ => ?_|refine zzj (fun _ => ?_) fun _ => ?_))
    rename_i bx
    refine CW_eff 10 [prt b z.1 ts.length z.2, blk bx 162 #[.string ⟨n.text.toArray⟩]] (pm := [tsl z.1 ts.length z.2 ts, ro w fp G]) (Ent.cons zpk (Ent.cons zpk (Ent.cons zpk (Ent.cons zpk Ent.nil)))) (by kernel_rfl) (by decide +kernel) ?_
    (refine WE_op rfl rfl zyi ?_)
    (refine WE_op rfl rfl zyi ?_)
    (refine WE_op rfl rfl zyi ?_)
    (refine WE_op rfl rfl zyi ?_)
    (refine WE_op rfl rfl zyi ?_)
    (refine WE_op rfl rfl zyi ?_)
    (refine WE_op rfl rfl zyi ?_)
    (refine WE_op rfl rfl zyi ?_)
    apply WE_bslice (pm := [tsl z.1 ts.length z.2 ts, ro w fp G]) (he := zent) (hso := by decide +kernel) (hx := rfl) (hl := rfl) (hc := rfl) (hs := rfl) (h0 := rfl) (hg := rfl) (hn := rfl)
    intro b3
    apply WE_append (pm := [ro w fp G]) (hso := by decide +kernel) (hx := rfl) (hy := rfl) (he := rfl) (hp := zpk) (hp2 := zpk) (hr := zent) (hl := rfl) (h1' := rfl) (hmax := by omega) (hmax2 := by omega) (hg := rfl) (hn := rfl)
    intro q' c2
    refine WE_end ?_
    ((repeat' (first|refine zza ?_|refine zc9 ?_|refine zzb fun w hw => ?_|refine zzh fun _ => ?_|refine zzi fun _ _ => ?_|refine zzj (fun _ => ?_) fun _ => ?_)); (repeat' (refine CW_seq ?_; (repeat' (first|refine zza ?_|refine zc9 ?_|refine zzb fun w hw => ?_|refine zzh fun _ => ?_|refine zzi fun _ _ => ?_|refine zzj (fun _ => ?_) fun _ => ?_)))))
    refine PrGot.of (z := (q', c2)) ?_
    dsimp only [prS, tsl]
    rw [List.length_append, List.length_singleton, ← tsl_snoc]
    exact hw.ent zent
  · have ht : (Ex.leaf n).toks = [⟨3, 0, 0, n.text, 0⟩] := by unfold Ex.toks; rw [if_neg (by omega), if_neg (by omega), if_pos h1]
    rw [ht] at hx ⊢
    rw [List.length_singleton] at hx
    refine enterR (args := [_, _]) hS hO Tryz.func39 rfl Tryz.ntmps39 (by simp) ?_
    clear hO hS ht
    (repeat' (first|refine zza ?_|refine zzb fun w hw => ?_|refine zzh fun _ => ?_|refine zzi fun _ _ => ?_|refine zzj (fun _ => ?_) fun _ => ?_))
    rename_i bx
    refine CW_eff 10 [prt b z.1 ts.length z.2, blk bx 146 #[.string ⟨n.text.toArray⟩]] (pm := [tsl z.1 ts.length z.2 ts, ro w fp G]) (Ent.cons zpk (Ent.cons zpk (Ent.cons zpk (Ent.cons zpk Ent.nil)))) (by kernel_rfl) (by decide +kernel) ?_
    (refine WE_op rfl rfl zyi ?_)
    (refine WE_op rfl rfl zyi ?_)
    (refine WE_op rfl rfl zyi ?_)
    (refine WE_op rfl rfl zyi ?_)
    (refine WE_op rfl rfl zyi ?_)
    (refine WE_op rfl rfl zyi ?_)
    (refine WE_op rfl rfl zyi ?_)
    (refine WE_op rfl rfl zyi ?_)
    apply WE_bslice (pm := [tsl z.1 ts.length z.2 ts, ro w fp G]) (he := zent) (hso := by decide +kernel) (hx := rfl) (hl := rfl) (hc := rfl) (hs := rfl) (h0 := rfl) (hg := rfl) (hn := rfl)
    intro b3
    apply WE_append (pm := [ro w fp G]) (hso := by decide +kernel) (hx := rfl) (hy := rfl) (he := rfl) (hp := zpk) (hp2 := zpk) (hr := zent) (hl := rfl) (h1' := rfl) (hmax := by omega) (hmax2 := by omega) (hg := rfl) (hn := rfl)
    intro q' c2
    refine WE_end ?_
    ((repeat' (first|refine zza ?_|refine zc9 ?_|refine zzb fun w hw => ?_|refine zzh fun _ => ?_|refine zzi fun _ _ => ?_|refine zzj (fun _ => ?_) fun _ => ?_)); (repeat' (refine CW_seq ?_; (repeat' (first|refine zza ?_|refine zc9 ?_|refine zzb fun w hw => ?_|refine zzh fun _ => ?_|refine zzi fun _ _ => ?_|refine zzj (fun _ => ?_) fun _ => ?_)))))
    refine PrGot.of (z := (q', c2)) ?_
    dsimp only [prS, tsl]
    rw [List.length_append, List.length_singleton, ← tsl_snoc]
    exact hw.ent zent
  · have ht : (Ex.leaf n).toks = [if n.op = 4 then tokK 18 else tokK 19] := by unfold Ex.toks; rw [if_neg (by omega), if_neg (by omega), if_neg (by omega)]; split <;> rfl
    rw [ht] at hx ⊢
    rw [List.length_singleton] at hx
    refine enterR (args := [_, _]) hS hO Tryz.func39 rfl Tryz.ntmps39 (by simp) ?_
    clear hO hS ht
    by_cases h4 : n.op = 4
    · ((repeat' (first|refine zza ?_|refine zc9 ?_|refine zzb fun w hw => ?_|refine zzh fun _ => ?_|refine zzi fun _ _ => ?_|refine zzj (fun _ => ?_) fun _ => ?_)); (repeat' (refine CW_seq ?_; (repeat' (first|refine zza ?_|refine zc9 ?_|refine zzb fun w hw => ?_|refine zzh fun _ => ?_|refine zzi fun _ _ => ?_|refine zzj (fun _ => ?_) fun _ => ?_)))))
      rename_i bx b2
      rw [if_pos h4]
      refine WL_put (b := b) (z := z) (ts := ts) (r := [blk bx 164 #[.int .i64 n.op]]) [18] zent rfl rfl (by decide) (by omega) rfl rfl rfl fun z' => ?_
      ((repeat' (first|refine zza ?_|refine zc9 ?_|refine zzb fun w hw => ?_|refine zzh fun _ => ?_|refine zzi fun _ _ => ?_|refine zzj (fun _ => ?_) fun _ => ?_)); (repeat' (refine CW_seq ?_; (repeat' (first|refine zza ?_|refine zc9 ?_|refine zzb fun w hw => ?_|refine zzh fun _ => ?_|refine zzi fun _ _ => ?_|refine zzj (fun _ => ?_) fun _ => ?_)))))
      exact PrGot.of (z := z') (hw.ent zent)
    · ((repeat' (first|refine zza ?_|refine zc9 ?_|refine zzb fun w hw => ?_|refine zzh fun _ => ?_|refine zzi fun _ _ => ?_|refine zzj (fun _ => ?_) fun _ => ?_)); (repeat' (refine CW_seq ?_; (repeat' (first|refine zza ?_|refine zc9 ?_|refine zzb fun w hw => ?_|refine zzh fun _ => ?_|refine zzi fun _ _ => ?_|refine zzj (fun _ => ?_) fun _ => ?_)))))
      rename_i bx b2
      rw [if_neg h4]
      refine WL_put (b := b) (z := z) (ts := ts) (r := [blk bx 164 #[.int .i64 n.op]]) [19] zent rfl rfl (by decide) (by omega) rfl rfl rfl fun z' => ?_
      ((repeat' (first|refine zza ?_|refine zc9 ?_|refine zzb fun w hw => ?_|refine zzh fun _ => ?_|refine zzi fun _ _ => ?_|refine zzj (fun _ => ?_) fun _ => ?_)); (repeat' (refine CW_seq ?_; (repeat' (first|refine zza ?_|refine zc9 ?_|refine zzb fun w hw => ?_|refine zzh fun _ => ?_|refine zzi fun _ _ => ?_|refine zzj (fun _ => ?_) fun _ => ?_)))))
      exact PrGot.of (z := z') (hw.ent zent)
set_option maxHeartbeats 8000000 in
set_option maxRecDepth 100000 in
theorem print_one (n : Nod) (b : Exs) (r : Ex) (hb : ∀ e ∈ b.list, PrintC e) (hr : PrintC r) : PrintC (.one n b r) := by
  intro G v hrep bp z ts w fp hx hO hS
  obtain ⟨ep, ec, vs, u, rfl, hR, hbr, hrr⟩ := hrep
  obtain ⟨es, rfl⟩ : ∃ es, b = Exs.of es := ⟨b.list, (Exs.of_list'' b).symm⟩
  rw [Exs.of_list] at hb
  obtain ⟨T, uu, rfl⟩ := Ex.rep_iface hrr
  rw [Ex.toks] at hx ⊢
  rw [List.length_append] at hx
  have hcl := closeT_len (catchE n r) r.toks
  refine enterR (args := [_, _]) hS hO Tryz.func39 rfl Tryz.ntmps39 (by simp) ?_
  clear hO hS
  ((repeat' (first|refine zza ?_|refine zc9 ?_|refine zzb fun w hw => ?_|refine zzh fun _ => ?_|refine zzi fun _ _ => ?_|refine zzj (fun _ => ?_) fun _ => ?_)); (repeat' (refine CW_seq ?_; (repeat' (first|refine zza ?_|refine zc9 ?_|refine zzb fun w hw => ?_|refine zzh fun _ => ?_|refine zzi fun _ _ => ?_|refine zzj (fun _ => ?_) fun _ => ?_)))))
  rename_i bx
  refine WL_pr (b := bp) (z := z) (ts := ts) (us := funT n ((Exs.of es).bodyT false)) (r := [blk bx 170 #[.int .i64 n.aop, .int .i64 n.af, .int .i64 n.ag, .int .i64 n.n, .slice ep vs.length ec, .iface T uu]]) zent rfl rfl rfl (fun W fp' hO hS => tree_pfun n es hb ep ec vs G hR hbr bp z ts W fp' (by omega) hO hS) fun z1 => ?_
  generalize hT1 : ts ++ funT n ((Exs.of es).bodyT false) = T1
  have hT1l : T1.length = ts.length + (funT n ((Exs.of es).bodyT false)).length := by rw [← hT1, List.length_append]
  refine zza ?_
  refine zza ?_
  refine CW_perm 8 [0, 1, 2, 3, 4, 5, 6, 7] [blk bx 170 #[.int .i64 n.aop, .int .i64 n.af, .int .i64 n.ag, .int .i64 n.n, .slice ep vs.length ec, .iface T uu]] [] zcov (pm := ro w fp G :: prS bp z1 T1) Ent.refl (by kernel_rfl) (by decide +kernel) (by kernel_rfl) ?_
  (refine WP_op rfl rfl rfl zyi ?_)
  (refine WP_op rfl rfl rfl zyi ?_)
  (refine WP_op rfl rfl rfl zyi ?_)
  (refine WP_op rfl rfl rfl zyi ?_)
  (refine WP_op rfl rfl rfl zyi ?_)
  (refine WP_op rfl rfl rfl zyi ?_)
  (refine WP_op rfl rfl rfl zyi ?_)
  refine WP_callV rfl rfl rfl rfl (fun W _ => tree_catches n ep vs.length ec r (.iface T uu) G hrr W) ?_
  refine WP_end ?_
  refine WL_pr (b := bp) (z := z1) (ts := T1) (us := closeT (catchE n r) r.toks) (r := [blk bx 170 #[.int .i64 n.aop, .int .i64 n.af, .int .i64 n.ag, .int .i64 n.n, .slice ep vs.length ec, .iface T uu]]) zent rfl rfl rfl (fun W fp' hO hS => tree_pclosed r hr (catchE n r) (.iface T uu) G hrr bp z1 T1 W fp' (by omega) hO hS) fun z2 => ?_
  ((repeat' (first|refine zza ?_|refine zc9 ?_|refine zzb fun w hw => ?_|refine zzh fun _ => ?_|refine zzi fun _ _ => ?_|refine zzj (fun _ => ?_) fun _ => ?_)); (repeat' (refine CW_seq ?_; (repeat' (first|refine zza ?_|refine zc9 ?_|refine zzb fun w hw => ?_|refine zzh fun _ => ?_|refine zzi fun _ _ => ?_|refine zzj (fun _ => ?_) fun _ => ?_)))))
  refine PrGot.of (z := z2) ?_
  rw [← List.append_assoc, hT1]
  exact hw.ent zent
set_option maxHeartbeats 8000000 in
set_option maxRecDepth 100000 in
theorem print_two (n : Nod) (l : Ex) (b : Exs) (r : Ex) (hl : PrintC l) (hb : ∀ e ∈ b.list, PrintC e) (hr : PrintC r) : PrintC (.two n l b r) := by
  intro G v hrep bp z ts w fp hx hO hS
  obtain ⟨ep, ec, vs, t, u, rfl, hR, hlr, hbr, hrr⟩ := hrep
  obtain ⟨es, rfl⟩ : ∃ es, b = Exs.of es := ⟨b.list, (Exs.of_list'' b).symm⟩
  rw [Exs.of_list] at hb
  obtain ⟨T, uu, rfl⟩ := Ex.rep_iface hrr
  obtain ⟨TL, ul, rfl⟩ := Ex.rep_iface hlr
  rw [Ex.toks] at hx ⊢
  rw [List.length_append, List.length_append] at hx
  refine enterR (args := [_, _]) hS hO Tryz.func39 rfl Tryz.ntmps39 (by simp) ?_
  clear hO hS
  (repeat' ((fail_if_success refine zc8 ?_); (first|refine zza ?_|refine zzb fun w hw => ?_|refine zzh fun _ => ?_|refine zzi fun _ _ => ?_|refine zzj (fun _ => ?_) fun _ => ?_)))
  rename_i bx
  refine CW_perm 6 [0, 1, 2, 3, 4, 5] [blk bx 175 #[.iface TL ul, .int .i64 n.aop, .int .i64 n.af, .int .i64 n.ag, .int .i64 n.n, .slice ep vs.length ec, .iface T uu]] [] zcov (pm := ro w fp G :: prS bp z ts) (Ent.cons zpk (Ent.cons zpk (Ent.cons zpk (Ent.cons zpk Ent.nil)))) (by kernel_rfl) (by decide +kernel) (by kernel_rfl) ?_
  (refine WP_op rfl rfl rfl zyi ?_)
  (refine WP_op rfl rfl rfl zyi ?_)
  (refine WP_op rfl rfl rfl zyi ?_)
  (refine WP_op rfl rfl rfl zyi ?_)
  (refine WP_op rfl rfl rfl zyi ?_)
  refine WP_callV rfl rfl rfl rfl (fun W _ => tree_compound l (.iface TL ul) G hlr W) ?_
  refine WP_end ?_
  refine WL_pr (b := bp) (z := z) (ts := ts) (us := closeT l.comp l.toks) (r := [blk bx 175 #[.iface TL ul, .int .i64 n.aop, .int .i64 n.af, .int .i64 n.ag, .int .i64 n.n, .slice ep vs.length ec, .iface T uu]]) (Ent.cons zpk (Ent.cons zpk (Ent.cons zpk (Ent.cons zpk Ent.nil)))) rfl rfl rfl (fun W fp' hO hS => tree_pclosed l hl l.comp (.iface TL ul) G hlr bp z ts W fp' (by omega) hO hS) fun z0 => ?_
  generalize hT0 : ts ++ closeT l.comp l.toks = T0
  have hT0l : T0.length = ts.length + (closeT l.comp l.toks).length := by rw [← hT0, List.length_append]
  ((repeat' (first|refine zza ?_|refine zc9 ?_|refine zzb fun w hw => ?_|refine zzh fun _ => ?_|refine zzi fun _ _ => ?_|refine zzj (fun _ => ?_) fun _ => ?_)); (repeat' (refine CW_seq ?_; (repeat' (first|refine zza ?_|refine zc9 ?_|refine zzb fun w hw => ?_|refine zzh fun _ => ?_|refine zzi fun _ _ => ?_|refine zzj (fun _ => ?_) fun _ => ?_)))))
  refine WL_pr (b := bp) (z := z0) (ts := T0) (us := funT n ((Exs.of es).bodyT false)) (r := [blk bx 175 #[.iface TL ul, .int .i64 n.aop, .int .i64 n.af, .int .i64 n.ag, .int .i64 n.n, .slice ep vs.length ec, .iface T uu]]) zent rfl rfl rfl (fun W fp' hO hS => tree_pfun n es hb ep ec vs G hR hbr bp z0 T0 W fp' (by omega) hO hS) fun z1 => ?_
  generalize hT1 : T0 ++ funT n ((Exs.of es).bodyT false) = T1
  have hT1l : T1.length = T0.length + (funT n ((Exs.of es).bodyT false)).length := by rw [← hT1, List.length_append]
  (repeat' ((fail_if_success refine zc8 ?_); (first|refine zza ?_|refine zzb fun w hw => ?_|refine zzh fun _ => ?_|refine zzi fun _ _ => ?_|refine zzj (fun _ => ?_) fun _ => ?_)))
  refine CW_perm 8 [0, 1, 2, 3, 4, 5, 6, 7] [blk bx 175 #[.iface TL ul, .int .i64 n.aop, .int .i64 n.af, .int .i64 n.ag, .int .i64 n.n, .slice ep vs.length ec, .iface T uu]] [] zcov (pm := ro w fp G :: prS bp z1 T1) Ent.refl (by kernel_rfl) (by decide +kernel) (by kernel_rfl) ?_
  (refine WP_op rfl rfl rfl zyi ?_)
  (refine WP_op rfl rfl rfl zyi ?_)
  (refine WP_op rfl rfl rfl zyi ?_)
  (refine WP_op rfl rfl rfl zyi ?_)
  (refine WP_op rfl rfl rfl zyi ?_)
  (refine WP_op rfl rfl rfl zyi ?_)
  (refine WP_op rfl rfl rfl zyi ?_)
  refine WP_callV rfl rfl rfl rfl (fun W _ => tree_catches n ep vs.length ec r (.iface T uu) G hrr W) ?_
  refine WP_end ?_
  refine WL_pr (b := bp) (z := z1) (ts := T1) (us := closeT (catchE n r) r.toks) (r := [blk bx 175 #[.iface TL ul, .int .i64 n.aop, .int .i64 n.af, .int .i64 n.ag, .int .i64 n.n, .slice ep vs.length ec, .iface T uu]]) zent rfl rfl rfl (fun W fp' hO hS => tree_pclosed r hr (catchE n r) (.iface T uu) G hrr bp z1 T1 W fp' (by omega) hO hS) fun z2 => ?_
  ((repeat' (first|refine zza ?_|refine zc9 ?_|refine zzb fun w hw => ?_|refine zzh fun _ => ?_|refine zzi fun _ _ => ?_|refine zzj (fun _ => ?_) fun _ => ?_)); (repeat' (refine CW_seq ?_; (repeat' (first|refine zza ?_|refine zc9 ?_|refine zzb fun w hw => ?_|refine zzh fun _ => ?_|refine zzi fun _ _ => ?_|refine zzj (fun _ => ?_) fun _ => ?_)))))
  refine PrGot.of (z := z2) ?_
  rw [← List.append_assoc, ← List.append_assoc, hT0, hT1]
  exact hw.ent zent
set_option maxHeartbeats 8000000 in
set_option maxRecDepth 100000 in
theorem print_pick (n : Nod) (o : Ex) (b : Exs) (ho : PrintC o) (hb : ∀ e ∈ b.list, PrintC e) : PrintC (.pick n o b) := by
  intro G v hrep bp z ts w fp hx hO hS
  obtain ⟨ep, ec, vs, t, rfl, hR, hor, hbr⟩ := hrep
  obtain ⟨es, rfl⟩ : ∃ es, b = Exs.of es := ⟨b.list, (Exs.of_list'' b).symm⟩
  rw [Exs.of_list] at hb
  obtain ⟨TO, uu, rfl⟩ := Ex.rep_iface hor
  obtain ⟨hvl, hat⟩ := Exs.of_rep_at' hbr
  have hRl := hR.len
  rw [Ex.toks] at hx ⊢
  rw [List.length_append, List.length_cons, List.length_append, List.length_singleton] at hx
  refine enterR (args := [_, _]) hS hO Tryz.func39 rfl Tryz.ntmps39 (by simp) ?_
  clear hO hS hbr
  (repeat' ((fail_if_success refine zc8 ?_); (first|refine zza ?_|refine zzb fun w hw => ?_|refine zzh fun _ => ?_|refine zzi fun _ _ => ?_|refine zzj (fun _ => ?_) fun _ => ?_)))
  rename_i bx
  refine CW_perm 6 [0, 1, 2, 3, 4, 5] [blk bx 177 #[.iface TO uu, .slice ep vs.length ec]] [] zcov (pm := ro w fp G :: prS bp z ts) (Ent.cons zpk (Ent.cons zpk (Ent.cons zpk (Ent.cons zpk Ent.nil)))) (by kernel_rfl) (by decide +kernel) (by kernel_rfl) ?_
  (refine WP_op rfl rfl rfl zyi ?_)
  (refine WP_op rfl rfl rfl zyi ?_)
  (refine WP_op rfl rfl rfl zyi ?_)
  (refine WP_op rfl rfl rfl zyi ?_)
  (refine WP_op rfl rfl rfl zyi ?_)
  refine WP_callV rfl rfl rfl rfl (fun W _ => tree_compound o (.iface TO uu) G hor W) ?_
  refine WP_end ?_
  refine WL_pr (b := bp) (z := z) (ts := ts) (us := closeT o.comp o.toks) (r := [blk bx 177 #[.iface TO uu, .slice ep vs.length ec]]) (Ent.cons zpk (Ent.cons zpk (Ent.cons zpk (Ent.cons zpk Ent.nil)))) rfl rfl rfl (fun W fp' hO hS => tree_pclosed o ho o.comp (.iface TO uu) G hor bp z ts W fp' (by omega) hO hS) fun z0 => ?_
  generalize hT0 : ts ++ closeT o.comp o.toks = T0
  have hT0l : T0.length = ts.length + (closeT o.comp o.toks).length := by rw [← hT0, List.length_append]
  ((repeat' (first|refine zza ?_|refine zc9 ?_|refine zzb fun w hw => ?_|refine zzh fun _ => ?_|refine zzi fun _ _ => ?_|refine zzj (fun _ => ?_) fun _ => ?_)); (repeat' (refine CW_seq ?_; (repeat' (first|refine zza ?_|refine zc9 ?_|refine zzb fun w hw => ?_|refine zzh fun _ => ?_|refine zzi fun _ _ => ?_|refine zzj (fun _ => ?_) fun _ => ?_)))))
  refine WL_put (b := bp) (z := z0) (ts := T0) (r := [blk bx 177 #[.iface TO uu, .slice ep vs.length ec]]) [7] zent rfl rfl (by decide) (by omega) rfl rfl rfl fun z1 => ?_
  generalize hT1 : T0 ++ [(7 : Int)].map tokK = T1
  have hT1l : T1.length = T0.length + 1 := by rw [← hT1, List.length_append]; rfl
  ((repeat' (first|refine zza ?_|refine zc9 ?_|refine zzb fun w hw => ?_|refine zzh fun _ => ?_|refine zzi fun _ _ => ?_|refine zzj (fun _ => ?_) fun _ => ?_)); (repeat' (refine CW_seq ?_; (repeat' (first|refine zza ?_|refine zc9 ?_|refine zzb fun w hw => ?_|refine zzh fun _ => ?_|refine zzi fun _ _ => ?_|refine zzj (fun _ => ?_) fun _ => ?_)))))
  refine CW_loopK [(0,_),(134,_),(135,_)] zcov (fun x : Nat × (Option Addr × Nat) × List Tok => [(136, .int .i64 (x.1 : Int))]) (fun x => ro w fp G :: (prS bp x.2.1 x.2.2 ++ [blk bx 177 #[.iface TO uu, .slice ep vs.length ec]])) (fun x => x.1 ≤ vs.length ∧ x.2.2 ++ ((if x.1 = 0 ∨ x.1 = es.length then [] else [tokK 9]) ++ (Exs.of (es.drop x.1)).semiT) = T1 ++ (Exs.of es).semiT) (fun x => vs.length - x.1) (0, z1, T1) ⟨Nat.zero_le _, by rw [if_pos (.inl rfl)]; rfl⟩ zcov zent ?_
  rintro ⟨i, zi, T⟩ ⟨hi, hT⟩
  dsimp only at hi hT ⊢
  have hTl := congrArg List.length hT
  simp only [List.length_append] at hTl
  by_cases hlt : i < vs.length
  · obtain ⟨e, he⟩ : ∃ e, es[i]? = some e := ⟨es[i]'(by omega), by simp [show i < es.length by omega]⟩
    obtain ⟨v, hv, hrep⟩ := hat i e he
    have hdr : es.drop i = e :: es.drop (i + 1) := (List.getElem?_eq_some_iff.1 he).2 ▸ List.drop_eq_getElem_cons (List.getElem?_eq_some_iff.1 he).1
    have hlen : (Exs.of (es.drop (i + 1))).len = es.length - (i + 1) := by rw [Exs.of_len, List.length_drop]
    have hif : (if es.length - (i + 1) = 0 then [] else [tokK 9]) = (if i + 1 = 0 ∨ i + 1 = es.length then [] else [tokK 9] : List Tok) := by
      by_cases h : i + 1 = es.length
      · rw [if_pos (by omega), if_pos (.inr h)]
      · rw [if_neg (by omega), if_neg (by omega)]
    rw [hdr, Exs.of, Exs.semiT, hlen, hif] at hT hTl
    rw [List.length_append, List.length_append] at hTl
    have hCe := hb e (List.mem_of_getElem? he)
    obtain ⟨Te, ue, rfl⟩ := Ex.rep_iface hrep
    clear hat hb hif hdr hlen hT1 hT0
    by_cases h0 : i = 0
    · rw [if_pos (.inl h0), List.nil_append, ← List.append_assoc] at hT
      rw [if_pos (.inl h0)] at hTl
      have hTe : T.length + e.toks.length ≤ 900000000 := by omega
      clear hTl
      ((repeat' (first|refine zza ?_|refine zc9 ?_|refine zzb fun w hw => ?_|refine zzh fun _ => ?_|refine zzi fun _ _ => ?_|refine zzj (fun _ => ?_) fun _ => ?_)); (repeat' (refine CW_seq ?_; (repeat' (first|refine zza ?_|refine zc9 ?_|refine zzb fun w hw => ?_|refine zzh fun _ => ?_|refine zzi fun _ _ => ?_|refine zzj (fun _ => ?_) fun _ => ?_)))))
      refine WL_op rfl rfl (y_load (v := .iface Te ue) rfl (rd_row (enc := encV) (u := Value.iface Te ue) hR .here hv)) ?_
      ((repeat' (first|refine zza ?_|refine zc9 ?_|refine zzb fun w hw => ?_|refine zzh fun _ => ?_|refine zzi fun _ _ => ?_|refine zzj (fun _ => ?_) fun _ => ?_)); (repeat' (refine CW_seq ?_; (repeat' (first|refine zza ?_|refine zc9 ?_|refine zzb fun w hw => ?_|refine zzh fun _ => ?_|refine zzi fun _ _ => ?_|refine zzj (fun _ => ?_) fun _ => ?_)))))
      refine WL_pr (b := bp) (z := zi) (ts := T) (us := e.toks) (r := [blk bx 177 #[.iface TO uu, .slice ep vs.length ec]]) zent rfl rfl rfl (fun W fp' hO hS => hCe G _ hrep bp zi T W fp' hTe hO hS) fun z2 => ?_
      ((repeat' (first|refine zza ?_|refine zc9 ?_|refine zzb fun w hw => ?_|refine zzh fun _ => ?_|refine zzi fun _ _ => ?_|refine zzj (fun _ => ?_) fun _ => ?_)); (repeat' (refine CW_seq ?_; (repeat' (first|refine zza ?_|refine zc9 ?_|refine zzb fun w hw => ?_|refine zzh fun _ => ?_|refine zzi fun _ _ => ?_|refine zzj (fun _ => ?_) fun _ => ?_)))))
      exact EX_loop' (i + 1, z2, T ++ e.toks) ⟨zcov, zent, by dsimp only; omega, by dsimp only; omega, hT⟩
    · rw [if_neg (by omega), ← List.append_assoc, ← List.append_assoc] at hT
      rw [if_neg (by omega), List.length_singleton] at hTl
      have hTe : T.length + 1 + e.toks.length ≤ 900000000 := by omega
      clear hTl
      ((repeat' (first|refine zza ?_|refine zc9 ?_|refine zzb fun w hw => ?_|refine zzh fun _ => ?_|refine zzi fun _ _ => ?_|refine zzj (fun _ => ?_) fun _ => ?_)); (repeat' (refine CW_seq ?_; (repeat' (first|refine zza ?_|refine zc9 ?_|refine zzb fun w hw => ?_|refine zzh fun _ => ?_|refine zzi fun _ _ => ?_|refine zzj (fun _ => ?_) fun _ => ?_)))))
      refine WL_op rfl rfl (y_load (v := .iface Te ue) rfl (rd_row (enc := encV) (u := Value.iface Te ue) hR .here hv)) ?_
      ((repeat' (first|refine zza ?_|refine zc9 ?_|refine zzb fun w hw => ?_|refine zzh fun _ => ?_|refine zzi fun _ _ => ?_|refine zzj (fun _ => ?_) fun _ => ?_)); (repeat' (refine CW_seq ?_; (repeat' (first|refine zza ?_|refine zc9 ?_|refine zzb fun w hw => ?_|refine zzh fun _ => ?_|refine zzi fun _ _ => ?_|refine zzj (fun _ => ?_) fun _ => ?_)))))
      refine WL_put (b := bp) (z := zi) (ts := T) (r := [blk bx 177 #[.iface TO uu, .slice ep vs.length ec]]) [9] zent rfl rfl (by decide) (by omega) rfl rfl rfl fun z2 => ?_
      ((repeat' (first|refine zza ?_|refine zc9 ?_|refine zzb fun w hw => ?_|refine zzh fun _ => ?_|refine zzi fun _ _ => ?_|refine zzj (fun _ => ?_) fun _ => ?_)); (repeat' (refine CW_seq ?_; (repeat' (first|refine zza ?_|refine zc9 ?_|refine zzb fun w hw => ?_|refine zzh fun _ => ?_|refine zzi fun _ _ => ?_|refine zzj (fun _ => ?_) fun _ => ?_)))))
      refine WL_pr (b := bp) (z := z2) (ts := T ++ [(9 : Int)].map tokK) (us := e.toks) (r := [blk bx 177 #[.iface TO uu, .slice ep vs.length ec]]) zent rfl rfl rfl (fun W fp' hO hS => hCe G _ hrep bp z2 _ W fp' (by rw [List.length_append]; exact hTe) hO hS) fun z3 => ?_
      ((repeat' (first|refine zza ?_|refine zc9 ?_|refine zzb fun w hw => ?_|refine zzh fun _ => ?_|refine zzi fun _ _ => ?_|refine zzj (fun _ => ?_) fun _ => ?_)); (repeat' (refine CW_seq ?_; (repeat' (first|refine zza ?_|refine zc9 ?_|refine zzb fun w hw => ?_|refine zzh fun _ => ?_|refine zzi fun _ _ => ?_|refine zzj (fun _ => ?_) fun _ => ?_)))))
      exact EX_loop' (i + 1, z3, T ++ [(9 : Int)].map tokK ++ e.toks) ⟨zcov, zent, by dsimp only; omega, by dsimp only; omega, hT⟩
  · have hdn : es.drop i = [] := List.drop_eq_nil_of_le (by omega)
    rw [hdn, if_pos (.inr (by omega)), List.nil_append, Exs.of, Exs.semiT, List.append_nil] at hT
    have hTb : T.length ≤ 900000000 := by omega
    clear hTl hat hb hx
    ((repeat' (first|refine zza ?_|refine zc9 ?_|refine zzb fun w hw => ?_|refine zzh fun _ => ?_|refine zzi fun _ _ => ?_|refine zzj (fun _ => ?_) fun _ => ?_)); (repeat' (refine CW_seq ?_; (repeat' (first|refine zza ?_|refine zc9 ?_|refine zzb fun w hw => ?_|refine zzh fun _ => ?_|refine zzi fun _ _ => ?_|refine zzj (fun _ => ?_) fun _ => ?_)))))
    refine WL_put (b := bp) (z := zi) (ts := T) (r := [blk bx 177 #[.iface TO uu, .slice ep vs.length ec]]) [8] zent rfl rfl (by decide) (by omega) rfl rfl rfl fun z3 => ?_
    ((repeat' (first|refine zza ?_|refine zc9 ?_|refine zzb fun w hw => ?_|refine zzh fun _ => ?_|refine zzi fun _ _ => ?_|refine zzj (fun _ => ?_) fun _ => ?_)); (repeat' (refine CW_seq ?_; (repeat' (first|refine zza ?_|refine zc9 ?_|refine zzb fun w hw => ?_|refine zzh fun _ => ?_|refine zzi fun _ _ => ?_|refine zzj (fun _ => ?_) fun _ => ?_)))))
    refine PrGot.of (z := z3) ?_
    have e1 : T ++ [(8 : Int)].map tokK = ts ++ (closeT o.comp o.toks ++ tokK 7 :: ((Exs.of es).semiT ++ [tokK 8])) := by rw [hT, ← hT1, ← hT0]; simp
    rw [← e1]
    exact hw.ent zent
mutual
theorem print_ex : ∀ e : Ex, PrintC e
  | .leaf n => print_leaf n
  | .one n b r => print_one n b r (print_exs b) (print_ex r)
  | .two n l b r => print_two n l b r (print_ex l) (print_exs b) (print_ex r)
  | .pick n o b => print_pick n o b (print_ex o) (print_exs b)
theorem print_exs : ∀ b : Exs, ∀ e ∈ b.list, PrintC e
  | .nil, e, he => by simp [Exs.list] at he
  | .cons x r, e, he => by
    rw [Exs.list] at he
    rcases List.mem_cons.1 he with hx | he
    · rw [hx]
      exact print_ex x
    · exact print_exs r e he
end
set_option maxHeartbeats 8000000 in
set_option maxRecDepth 100000 in
theorem print_set (text : List UInt8) (e : Ex) (v : Value) (G : Rd) (hv : e.rep G v) (b : Nat) (z : Option Addr × Nat) (ts : List Tok) (w : World) (fp : List Nat) (hx : ts.length + e.toks.length + 2 ≤ 900000000) (hO : Own (prS b z ts) fp w) (hS : Rd.sub G fp w) :
    Calls Tryz.prog 39 #[.pointer (some ⟨b, 0, none⟩), .iface 148 (.agg #[.string ⟨text.toArray⟩, v])] w (PrGot b ts (⟨3, 0, 0, text, 0⟩ :: tokK 10 :: e.toks) G w fp) := by
  obtain ⟨T, u, rfl⟩ := Ex.rep_iface hv
  refine enterR (args := [_, _]) hS hO Tryz.func39 rfl Tryz.ntmps39 (by simp) ?_
  clear hO hS
  ((repeat' (first|refine zza ?_|refine zc9 ?_|refine zzb fun w hw => ?_|refine zzh fun _ => ?_|refine zzi fun _ _ => ?_|refine zzj (fun _ => ?_) fun _ => ?_)); (repeat' (refine CW_seq ?_; (repeat' (first|refine zza ?_|refine zc9 ?_|refine zzb fun w hw => ?_|refine zzh fun _ => ?_|refine zzi fun _ _ => ?_|refine zzj (fun _ => ?_) fun _ => ?_)))))
  rename_i bx
  have hrn : (Ex.leaf ⟨3, 0, 0, 0, 0, [], text⟩).rep G (.iface 146 (.agg #[.string ⟨text.toArray⟩])) := .inr (.inr (.inl ⟨rfl, rfl⟩))
  refine WL_pr (b := b) (z := z) (ts := ts) (us := [⟨3, 0, 0, text, 0⟩]) (r := [blk bx 148 #[.string ⟨text.toArray⟩, .iface T u]]) zent rfl rfl rfl (fun W fp' hO hS => print_ex (.leaf ⟨3, 0, 0, 0, 0, [], text⟩) G _ hrn b z ts W fp' (by rw [show (Ex.leaf ⟨3, 0, 0, 0, 0, [], text⟩).toks = [⟨3, 0, 0, text, 0⟩] from rfl, List.length_singleton]; omega) hO hS) fun z1 => ?_
  generalize hT1 : ts ++ [(⟨3, 0, 0, text, 0⟩ : Tok)] = T1
  have hT1l : T1.length = ts.length + 1 := by rw [← hT1, List.length_append]; rfl
  ((repeat' (first|refine zza ?_|refine zc9 ?_|refine zzb fun w hw => ?_|refine zzh fun _ => ?_|refine zzi fun _ _ => ?_|refine zzj (fun _ => ?_) fun _ => ?_)); (repeat' (refine CW_seq ?_; (repeat' (first|refine zza ?_|refine zc9 ?_|refine zzb fun w hw => ?_|refine zzh fun _ => ?_|refine zzi fun _ _ => ?_|refine zzj (fun _ => ?_) fun _ => ?_)))))
  refine WL_put (b := b) (z := z1) (ts := T1) (r := [blk bx 148 #[.string ⟨text.toArray⟩, .iface T u]]) [10] zent rfl rfl (by decide) (by omega) rfl rfl rfl fun z2 => ?_
  generalize hT2 : T1 ++ [(10 : Int)].map tokK = T2
  have hT2l : T2.length = ts.length + 2 := by rw [← hT2, List.length_append, hT1l]; rfl
  ((repeat' (first|refine zza ?_|refine zc9 ?_|refine zzb fun w hw => ?_|refine zzh fun _ => ?_|refine zzi fun _ _ => ?_|refine zzj (fun _ => ?_) fun _ => ?_)); (repeat' (refine CW_seq ?_; (repeat' (first|refine zza ?_|refine zc9 ?_|refine zzb fun w hw => ?_|refine zzh fun _ => ?_|refine zzi fun _ _ => ?_|refine zzj (fun _ => ?_) fun _ => ?_)))))
  refine WL_pr (b := b) (z := z2) (ts := T2) (us := e.toks) (r := [blk bx 148 #[.string ⟨text.toArray⟩, .iface T u]]) zent rfl rfl rfl (fun W fp' hO hS => print_ex e G _ hv b z2 T2 W fp' (by omega) hO hS) fun z3 => ?_
  ((repeat' (first|refine zza ?_|refine zc9 ?_|refine zzb fun w hw => ?_|refine zzh fun _ => ?_|refine zzi fun _ _ => ?_|refine zzj (fun _ => ?_) fun _ => ?_)); (repeat' (refine CW_seq ?_; (repeat' (first|refine zza ?_|refine zc9 ?_|refine zzb fun w hw => ?_|refine zzh fun _ => ?_|refine zzi fun _ _ => ?_|refine zzj (fun _ => ?_) fun _ => ?_)))))
  refine PrGot.of (z := z3) ?_
  rw [show ts ++ (⟨3, 0, 0, text, 0⟩ :: tokK 10 :: e.toks) = T2 ++ e.toks by rw [← hT2, ← hT1]; simp]
  exact hw.ent zent
end Go.Proofs.YtngeooflfkpikaaGreatDoor
