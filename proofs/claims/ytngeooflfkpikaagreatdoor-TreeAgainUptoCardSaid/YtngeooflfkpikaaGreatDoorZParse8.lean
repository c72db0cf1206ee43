/-
  tree.Parse: a line's tree.
-/
import Derived.Test.YtngeooflfkpikaaGreatDoorZGo
import Derived.Test.YtngeooflfkpikaaGreatDoorZParse5
import Derived.Test.YtngeooflfkpikaaGreatDoorZFlat1
import Derived.Test.YtngeooflfkpikaaGreatDoorZSpell
namespace Go.Proofs.YtngeooflfkpikaaGreatDoor
open Go.RowKit
theorem y_sliceN {P : Program} {K : Cx} {ρ : Env} {m : List HP} {dst : Option Nat} {ty t e : TypeId} {pos : String} {aft : Array Edge} {g : Option (Nat × Bool)} {x y z : Operand} {a : Addr} {n c l h sz : Nat} [S : SlT P t e sz] {k1 k2 : IntKind} (hx : opv ρ x = some (.slice (some a) n c)) (hy : opv ρ y = some (.int k1 (l : Int))) (hz : opv ρ z = some (.int k2 (h : Int))) (h1 : l < c) (h2 : l ≤ h) (h3 : h ≤ c) :
    Yi P K ρ m ⟨dst, .slice t x (some y) (some z) none, ty, pos, aft, g⟩ (.slice (some (a.add (l * sz))) (h - l) (c - l)) := ⟨fun A w hf _ => by
  have he : P.elem t = e := by simp [Program.elem, S.und]
  have ht' : P.underlying t = some (.slice (P.elem t)) := by rw [he]; exact S.und
  have h4 : (Instr.sliceAt t (.slice (some a) n c) (some (.int k1 (l : Int))) (some (.int k2 (h : Int))) none).run P w = .ok (.slice (some (a.add (l * sz))) (h - l) (c - l)) w := by
    rw [run_sliceAt_slice (w := w) t _ _ _ _ ht', run_slice_lh (w := w) t (some a) n c ht' k1 k2 (l : Int) (h : Int) (by omega) (by omega) (by omega), he, S.size w]
    have hne : ¬ c = l := by omega
    simp [Result.andThen, sliced, hne]
  simp only [execOp, Option.map_some, Option.map_none, hf.eval hx, hf.eval hy, hf.eval hz]
  simp [h4]⟩
theorem Row.one {α : Type} {enc : α → List Value} {z : Nat} {G : Rd} {a : Addr} {c i : Nat} {xs : List α} {x : α} (h : Row enc z G (some a) c xs) (hx : xs[i]? = some x) : Row enc z G (some (a.add (i * z))) (c - i) [x] := by
  have hi : i < xs.length := (List.getElem?_eq_some_iff.1 hx).1
  refine ⟨by have := h.le; simp; omega, by have := h.max; omega, fun _ => rfl, fun j y hy k v hv => ?_⟩
  have hj : j = 0 := by have := (List.getElem?_eq_some_iff.1 hy).1; simp at this; omega
  subst hj
  simp at hy; subst hy
  have := h.cell i x hx k v hv
  unfold addrAt at this ⊢
  rw [Nat.zero_mul]
  show G (((a.add (i * z)).add 0).add k) = some v
  rw [add_zero]
  exact this
theorem results_t3 {P : Program} {fn : Func} {t1 t2 t3 : Tmp} {T1 T2 T3 : TypeId} (hr : fn.results = #[.cell t1 T1, .cell t2 T2, .cell t3 T3]) [S1 : NAgg P T1] [S2 : NAgg P T2] [S3 : NAgg P T3] {tmps : Array Value} {w : World} {b1 b2 b3 : Nat} (h1 : tmps.getD t1 undef = .pointer (some ⟨b1, 0, none⟩)) (h2 : tmps.getD t2 undef = .pointer (some ⟨b2, 0, none⟩)) (h3 : tmps.getD t3 undef = .pointer (some ⟨b3, 0, none⟩))
    {v1 v2 v3 : Value} {U1 U2 U3 : TypeId} (c1 : w.heap[b1]? = some (.cells #[v1] U1 (0, 0))) (c2 : w.heap[b2]? = some (.cells #[v2] U2 (0, 0))) (c3 : w.heap[b3]? = some (.cells #[v3] U3 (0, 0))) :
    (results fn tmps).run P w = .ok (.tuple #[v1, v2, v3]) w := by
  have e1 : w.cell? ⟨b1, 0, none⟩ = some v1 := by simp [World.cell?, c1]
  have e2 : w.cell? ⟨b2, 0, none⟩ = some v2 := by simp [World.cell?, c2]
  have e3 : w.cell? ⟨b3, 0, none⟩ = some v3 := by simp [World.cell?, c3]
  rw [Array.getD_eq_getD_getElem?] at h1 h2 h3
  simp [results, hr, h1, h2, h3, loadVar, S1.agg, S2.agg, S3.agg, e1, e2, e3, go_sem]
/-- the first word that cannot be spelt alone -/
def badI (L : List Tok) : Nat := (L.takeWhile fun t => decide ((spellF [t]).2 = 0)).length
/-- what Parse tells: an error's number, where, the nodes -/
def parseF (L : List Tok) : Int × Int × List Nod := if 200 < L.length then (7, 0, []) else
  match L[badI L]? with
  | some t => ((spellF [t]).2, (badI L : Int), [])
  | none => match linP L with
    | .error y => (1, ((L.length - y : Nat) : Int), [])
    | .ok (x, r) => if r = [] then (0, 0, lineN x) else (1, ((L.length - r.length : Nat) : Int), [])
theorem badI_of {L : List Tok} {i : Nat} (h : ∀ j, j < i → ∀ t, L[j]? = some t → (spellF [t]).2 = 0) (hi : i ≤ L.length) (hb : ∀ t, L[i]? = some t → (spellF [t]).2 ≠ 0) : badI L = i := by
  have key : ∀ (L : List Tok) (i : Nat), (∀ j, j < i → ∀ t, L[j]? = some t → (spellF [t]).2 = 0) → i ≤ L.length → (∀ t, L[i]? = some t → (spellF [t]).2 ≠ 0) → badI L = i := by
    intro L
    induction L with
    | nil => intro i _ hi _; simp at hi; subst hi; rfl
    | cons t L ih =>
      intro i h hi hb
      cases i with
      | zero =>
        have := hb t rfl
        unfold badI
        rw [List.takeWhile_cons_of_neg (by simpa using this)]; rfl
      | succ i =>
        have h0 := h 0 (by omega) t rfl
        unfold badI
        rw [List.takeWhile_cons_of_pos (by simpa using h0), List.length_cons]
        exact congrArg (· + 1) (ih i (fun j hj t' ht' => h (j + 1) (by omega) t' ht') (by simpa using hi) (fun t' ht' => hb t' ht'))
  exact key L i h hi hb
/-- what Parse leaves behind -/
def ParsePost (L : List Tok) (u0 : World) (e : Ending) (w' : World) : Prop :=
  ∃ (ns : List NodM) (q : Option Addr) (c' : Nat), ns.map NodM.nod = (parseF L).2.2 ∧ Row nodE 7 w'.cell? q c' ns ∧ (∀ x ∈ ns, NodG w'.cell? x) ∧
    e = .returned (.tuple #[.slice q ns.length c', .int .i64 (parseF L).2.1, errV 24 (parseF L).1]) ∧ Below u0.heap.size u0 w'
theorem ParsePost.bad {L : List Tok} {u0 w' : World} {a : Int} {e : Int} (h : parseF L = (e, a, [])) (hb : Below u0.heap.size u0 w') : ParsePost L u0 (.returned (.tuple #[.slice none 0 0, .int .i64 a, errV 24 e])) w' :=
  ⟨[], none, 0, by rw [h]; rfl, Row.nil _ _ _, by simp, by rw [h]; rfl, hb⟩
set_option maxRecDepth 100000 in
theorem tparse_idle (b2 b3 b4 : Nat) (w : World) :
    CallsD Tryz.prog 31 #[.pointer (some ⟨b2, 0, none⟩), .pointer (some ⟨b3, 0, none⟩), .pointer (some ⟨b4, 0, none⟩)] .returning w fun e u w' => u = .returning ∧ (e = .returned (.tuple #[]) ∧ Below w.heap.size w w') := by
  refine callsD_rec (args := [_, _, _]) (m := []) (F := []) Tryz.func31 rfl Tryz.ntmps31 (by simp) (by decide) (.inl ⟨rfl, rfl, rfl⟩) rfl ?_
  (repeat' (first|refine zza ?_|refine zc9 ?_|refine zzb fun w hw => ?_|refine zzh fun _ => ?_|refine zzi fun _ _ => ?_|refine zzj (fun _ => ?_) fun _ => ?_))
  exact ⟨rfl, hw.below⟩
set_option maxRecDepth 100000 in
theorem tparse_catch (b2 b3 b4 : Nat) (v2 v3 v4 : Value) (y : Int) (w : World) (F : List Nat) (hm : Own [blk b2 22 #[v2], blk b3 3 #[v3], blk b4 28 #[v4]] F w) :
    CallsD Tryz.prog 31 #[.pointer (some ⟨b2, 0, none⟩), .pointer (some ⟨b3, 0, none⟩), .pointer (some ⟨b4, 0, none⟩)] (.panicking (wrongP y)) w fun e u w' => u = .panicking [{ v := wrongV y, recovered := true }] ∧ (e = .returned (.tuple #[]) ∧ Holds w F [blk b2 22 #[.slice none 0 0], blk b3 3 #[.int .i64 y], blk b4 28 #[.iface 24 (.int .i64 1)]] w') := by
  refine callsD_rec (args := [_, _, _]) Tryz.func31 rfl Tryz.ntmps31 (by simp) (by decide) (.inr ⟨[], rfl, rfl⟩) hm ?_
  unfold wrongV
  (repeat' (first|refine zza ?_|refine zc9 ?_|refine zzb fun w hw => ?_|refine zzh fun _ => ?_|refine zzi fun _ _ => ?_|refine zzj (fun _ => ?_) fun _ => ?_))
  exact ⟨rfl, hw.ent zent⟩
theorem toksOk_one {t : Tok} (h1 : I64 t.num) (h2 : t.text.length ≤ 4294967280) : ToksOk [t] := ⟨fun x hx => (show x = t by simpa using hx) ▸ h1, fun x hx => (show x = t by simpa using hx) ▸ h2⟩
theorem Holds.allP {w0 w : World} {F : List Nat} {m : List HP} (h : Holds w0 F m w) : ∃ fp, Own m fp w ∧ ∀ m' w', Holds w fp m' w' → Holds w0 F m' w' := by
  obtain ⟨fp, ho, hF⟩ := h.own
  refine ⟨fp, ho, fun m' w' k => ⟨⟨k.keep.os.trans h.keep.os, k.keep.tape.trans h.keep.tape, k.keep.output.trans h.keep.output, Nat.le_trans h.keep.size k.keep.size, fun i hi hiF => (k.keep.block i (Nat.lt_of_lt_of_le hi h.keep.size) (fun hfp => hiF (hF i hfp hi))).trans (h.keep.block i hi hiF)⟩, ?_⟩⟩
  obtain ⟨g, hg, hgl⟩ := k.own
  exact ⟨g, hg, fun i hi h0 => hF i (hgl i hi (Nat.lt_of_lt_of_le h0 h.keep.size)) h0⟩
theorem linP_can {L r : List Tok} {x : Option (List UInt8) × Ex} (hb : TokB L) (h : linP L = .ok (x, r)) : x.2.can ∧ x.2.flat.length ≤ 200 ∧ ∀ s, x.1 = some s → s.length ≤ 4294967280 := by
  have key : ∀ (l : List Tok) (e : Ex) (r : List Tok), TokB l → exP 0 l = .ok (e, r) → e.can ∧ e.flat.length ≤ 200 := fun l e r hb h => by
    obtain ⟨h1, h2⟩ := (canF _).ex _ _ _ _ hb h
    exact ⟨h1, by have := hb.len; omega⟩
  by_cases hs : ∃ t u r, L = t :: u :: r ∧ t.kind = 3 ∧ u.kind = 10
  · obtain ⟨t, u, l, rfl, h3, h10⟩ := hs
    unfold linP at h
    simp only at h
    rw [if_pos ⟨h3, h10⟩] at h
    obtain ⟨⟨e, r'⟩, h1, h⟩ := bind_ok h
    injection h with h; injection h with ha hb'; subst ha hb'
    obtain ⟨k1, k2⟩ := key l e r' (TokB.app (a := [t, u]) hb) h1
    exact ⟨k1, k2, fun s hs => by injection hs with hs; rw [← hs]; exact (hb.tok t (by simp)).2.2⟩
  · rw [linP_plain hs] at h
    obtain ⟨⟨e, r'⟩, h1, h⟩ := bind_ok h
    injection h with h; injection h with ha hb'; subst ha hb'
    obtain ⟨k1, k2⟩ := key L e r' hb h1
    exact ⟨k1, k2, fun s hs => by cases hs⟩
theorem line_flat {x : Option (List UInt8) × Ex} {G : Rd} {v : Value} (hc : x.2.can) (hl : x.2.flat.length ≤ 200) (ht : ∀ s, x.1 = some s → s.length ≤ 4294967280) (hr : LnRep G x v) : ∃ (T : TypeId) (u : Value) (f : FuncId), v = .iface T u ∧ MethT Tryz.prog T "ravelin/tree.flat" f ∧ FnT Tryz.prog f ∧
    ∀ (w : World) (fp : List Nat), Own [nsl none 0 0 []] fp w → Rd.sub G fp w → Calls Tryz.prog f #[u, .slice none 0 0] w (FlGot [] (lineN x) G w fp) := by
  obtain ⟨s, e⟩ := x
  cases s with
  | none =>
    obtain ⟨T, u, f, h1, h2, h3, h4⟩ := flat_ex e hc G v hr
    exact ⟨T, u, f, h1, h2, h3, fun w fp hO hS => h4 none 0 [] w fp (by dsimp only at hl; simp; omega) hO hS⟩
  | some s =>
    obtain ⟨u, rfl, hrr⟩ := hr
    obtain ⟨T, uu, rfl⟩ := Ex.rep_iface hrr
    exact ⟨_, _, 320, rfl, inferInstance, inferInstance, fun w fp hO hS => flat_set e (flat_ex e hc) s (ht s rfl) T uu none 0 [] G w fp hrr (by dsimp only at hl; simp; omega) hO hS⟩
set_option maxHeartbeats 8000000 in
set_option maxRecDepth 100000 in
theorem tree_Parse (p : Option Addr) (c : Nat) (L : List Tok) (u0 : World) (hR : Row tokE 5 u0.cell? p c L) (hT : ∀ t ∈ L, I64 t.num ∧ I64 t.fn ∧ t.text.length ≤ 4294967280) (hG : GlobA u0) :
    Calls Tryz.prog 11 #[.slice p L.length c] u0 (ParsePost L u0) := by
  have hLl := hR.len
  refine enterD (args := [_]) (m := [ro u0 [] u0.cell?]) (F := []) Tryz.func11 rfl Tryz.ntmps11 (by simp) ⟨[], [], rfl, ⟨by simp, fun a v e => .inr ⟨cell_lt e, by simp, e⟩⟩, rfl, by simp⟩ ?_
  by_cases h200 : (200 : Int) < (L.length : Int)
  · have hr : parseF L = (7, 0, []) := by unfold parseF; rw [if_pos (by omega)]
    ((repeat' (first|refine zza ?_|refine zc9 ?_|refine zzb fun w hw => ?_|refine zzh fun _ => ?_|refine zzi fun _ _ => ?_|refine zzj (fun _ => ?_) fun _ => ?_)); (repeat' (refine CW_seq ?_; (repeat' (first|refine zza ?_|refine zc9 ?_|refine zzb fun w hw => ?_|refine zzh fun _ => ?_|refine zzi fun _ _ => ?_|refine zzj (fun _ => ?_) fun _ => ?_)))))
    refine EX_retD0 rfl fun a w' hf hm => ⟨_, results_t3 rfl (hf.get 2 _ rfl) (hf.get 3 _ rfl) (hf.get 4 _ rfl) (hm.blk zpk) (hm.blk zpk) (hm.blk zpk), ?_⟩
    exact ParsePost.bad hr hm.below
  have hL200 : L.length ≤ 200 := by omega
  have hF : parseF L = match L[badI L]? with
      | some t => ((spellF [t]).2, (badI L : Int), [])
      | none => match linP L with
        | .error y => (1, ((L.length - y : Nat) : Int), [])
        | .ok (x, r) => if r = [] then (0, 0, lineN x) else (1, ((L.length - r.length : Nat) : Int), []) := by
    unfold parseF; rw [if_neg (by omega)]
  ((repeat' (first|refine zza ?_|refine zc9 ?_|refine zzb fun w hw => ?_|refine zzh fun _ => ?_|refine zzi fun _ _ => ?_|refine zzj (fun _ => ?_) fun _ => ?_)); (repeat' (refine CW_seq ?_; (repeat' (first|refine zza ?_|refine zc9 ?_|refine zzb fun w hw => ?_|refine zzh fun _ => ?_|refine zzi fun _ _ => ?_|refine zzj (fun _ => ?_) fun _ => ?_)))))
  rename_i b2 b3 b4
  refine CW_loopK [(0,_),(2,_),(3,_),(4,_),(15,_)] zcov (fun i : Nat => [(16, .int .i64 (i : Int))]) (fun _ => [ro u0 [] u0.cell?, blk b2 22 #[.slice none 0 0], blk b3 3 #[.int .i64 0], blk b4 28 #[.nilIface]]) (fun i => i ≤ L.length ∧ ∀ j, j < i → ∀ t, L[j]? = some t → (spellF [t]).2 = 0) (fun i => L.length - i) 0 ⟨Nat.zero_le _, fun j hj => absurd hj (Nat.not_lt_zero j)⟩ zcov zent ?_
  rintro i ⟨hi, hok⟩
  by_cases hlt : i < L.length
  · obtain ⟨t, ht⟩ := get_lt hlt
    have htb := hT t (List.mem_of_getElem? ht)
    have hps := Row.some_lt hR hlt
    obtain ⟨a, rfl⟩ := Option.isSome_iff_exists.1 hps
    have hle := hR.le
    have hone := hR.one ht
    have hS := fun (W : World) (hb : Below u0.heap.size u0 W) => lex_Spell _ _ [t] W (hone.mono fun a v e => (hb.cell (cell_lt e)).trans e) (toksOk_one htb.1 htb.2.2) (hG.below hb)
    ((repeat' (first|refine zza ?_|refine zc9 ?_|refine zzb fun w hw => ?_|refine zzh fun _ => ?_|refine zzi fun _ _ => ?_|refine zzj (fun _ => ?_) fun _ => ?_)); (repeat' (refine CW_seq ?_; (repeat' (first|refine zza ?_|refine zc9 ?_|refine zzb fun w hw => ?_|refine zzh fun _ => ?_|refine zzi fun _ _ => ?_|refine zzj (fun _ => ?_) fun _ => ?_)))))
    refine WL_op rfl rfl (y_sliceN (l := i) (h := i + 1) rfl rfl rfl (by omega) (by omega) (by omega)) ?_
    rw [show i + 1 - i = 1 by omega]
    by_cases he : (spellF [t]).2 = 0
    · rw [he, errV_zero] at hS
      (apply WL_callV; rfl; rfl; rfl; (intro W hW; exact hS W hW.below))
      clear hS
      ((repeat' (first|refine zza ?_|refine zc9 ?_|refine zzb fun w hw => ?_|refine zzh fun _ => ?_|refine zzi fun _ _ => ?_|refine zzj (fun _ => ?_) fun _ => ?_)); (repeat' (refine CW_seq ?_; (repeat' (first|refine zza ?_|refine zc9 ?_|refine zzb fun w hw => ?_|refine zzh fun _ => ?_|refine zzi fun _ _ => ?_|refine zzj (fun _ => ?_) fun _ => ?_)))))
      refine EX_loop' (i + 1) ⟨zcov, zent, by omega, by omega, fun j hj t' ht' => ?_⟩
      by_cases hji : j = i
      · subst hji
        rw [ht] at ht'
        injection ht' with ht'
        rw [← ht']; exact he
      · exact hok j (by omega) t' ht'
    · have hbi : badI L = i := badI_of hok hi fun t' ht' => by rw [ht] at ht'; injection ht' with ht'; rw [← ht']; exact he
      have hr : parseF L = ((spellF [t]).2, (i : Int), []) := by rw [hF, hbi, ht]
      rw [errV_ne he] at hS
      (apply WL_callV; rfl; rfl; rfl; (intro W hW; exact hS W hW.below))
      clear hS
      ((repeat' (first|refine zza ?_|refine zc9 ?_|refine zzb fun w hw => ?_|refine zzh fun _ => ?_|refine zzi fun _ _ => ?_|refine zzj (fun _ => ?_) fun _ => ?_)); (repeat' (refine CW_seq ?_; (repeat' (first|refine zza ?_|refine zc9 ?_|refine zzb fun w hw => ?_|refine zzh fun _ => ?_|refine zzi fun _ _ => ?_|refine zzj (fun _ => ?_) fun _ => ?_)))))
      refine EX_retD0 rfl fun a w' hf hm => ⟨_, results_t3 rfl (hf.get 2 _ rfl) (hf.get 3 _ rfl) (hf.get 4 _ rfl) (hm.blk zpk) (hm.blk zpk) (hm.blk zpk), ?_⟩
      rw [← errV_ne he]
      exact ParsePost.bad hr hm.below
  · have hil : i = L.length := by omega
    subst hil
    have hbi : badI L = L.length := badI_of hok hi fun t' ht' => by simp at ht'
    have hbn : L[badI L]? = none := by rw [hbi]; simp
    rw [hbn] at hF
    simp only at hF
    clear hok hbi hbn hi hlt
    ((repeat' (first|refine zza ?_|refine zc9 ?_|refine zzb fun w hw => ?_|refine zzh fun _ => ?_|refine zzi fun _ _ => ?_|refine zzj (fun _ => ?_) fun _ => ?_)); (repeat' (refine CW_seq ?_; (repeat' (first|refine zza ?_|refine zc9 ?_|refine zzb fun w hw => ?_|refine zzh fun _ => ?_|refine zzi fun _ _ => ?_|refine zzj (fun _ => ?_) fun _ => ?_)))))
    apply WL_op rfl rfl (y_makeFunc rfl)
    refine WL_defer rfl rfl rfl ?_
    ((repeat' (first|refine zza ?_|refine zc9 ?_|refine zzb fun w hw => ?_|refine zzh fun _ => ?_|refine zzi fun _ _ => ?_|refine zzj (fun _ => ?_) fun _ => ?_)); (repeat' (refine CW_seq ?_; (repeat' (first|refine zza ?_|refine zc9 ?_|refine zzb fun w hw => ?_|refine zzh fun _ => ?_|refine zzi fun _ _ => ?_|refine zzj (fun _ => ?_) fun _ => ?_)))))
    rename_i b5
    refine WL_ent (m' := [ro u0 [] u0.cell?, prs b5 p L.length c 0 0, blk b2 22 #[.slice none 0 0], blk b3 3 #[.int .i64 0], blk b4 28 #[.nilIface]]) (Ent.cons zpk (Ent.consK (k := zent) zpk)) ?_
    have hpan : ∀ (ρ : Env) (m : List HP) (v2 v3 v4 : Value) (z : Nat), ρ.find 2 = some (.pointer (some ⟨b2, 0, none⟩)) → ρ.find 3 = some (.pointer (some ⟨b3, 0, none⟩)) → ρ.find 4 = some (.pointer (some ⟨b4, 0, none⟩)) → Ent m [blk b2 22 #[v2], blk b3 3 #[v3], blk b4 28 #[v4]] → parseF L = (1, (z : Int), []) →
        EX (⟨50, [{ target := .fn (.func 31) #[.pointer (some ⟨b2, 0, none⟩), .pointer (some ⟨b3, 0, none⟩), .pointer (some ⟨b4, 0, none⟩)], args := #[] }], u0, []⟩ : Cx) (QBodyD Tryz.prog Tryz.f11 (ParsePost L u0)) (.panic (wrongP z)) ρ m := by
      intro ρ m v2 v3 v4 z h2 h3 h4 he hr
      refine EX_panD1 rfl fun a' w' hf hm => ?_
      obtain ⟨fp, ho, hth⟩ := (hm.ent he).allP
      refine (tparse_catch b2 b3 b4 _ _ _ (z : Int) w' fp ho).mono ?_
      rintro e u w2 ⟨rfl, hh⟩
      obtain ⟨rfl, hh⟩ := hh
      have hm2 := hth _ _ hh
      refine ⟨_, rfl, rfl, _, results_t3 rfl (hf.get 2 _ h2) (hf.get 3 _ h3) (hf.get 4 _ h4) (hm2.blk .here) (hm2.blk (.there .here)) (hm2.blk (.there (.there .here))), ?_⟩
      exact ParsePost.bad hr hm2.below
    refine WL_callPar (G := u0.cell?) (r := [blk b2 22 #[.slice none 0 0], blk b3 3 #[.int .i64 0], blk b4 28 #[.nilIface]]) b5 p c L 0 0 (linP L) LnRep (fun W fp' hW hO hS hF => par_line p c L hL200 b5 u0.cell? W fp' hR hO hS) ?_ ?_
    case refine_2 =>
      intro y k' hy
      rw [hy] at hF
      ((repeat' (first|refine zza ?_|refine zc9 ?_|refine zzb fun w hw => ?_|refine zzh fun _ => ?_|refine zzi fun _ _ => ?_|refine zzj (fun _ => ?_) fun _ => ?_)); (repeat' (refine CW_seq ?_; (repeat' (first|refine zza ?_|refine zc9 ?_|refine zzb fun w hw => ?_|refine zzh fun _ => ?_|refine zzi fun _ _ => ?_|refine zzj (fun _ => ?_) fun _ => ?_)))))
      exact hpan _ _ _ _ _ (L.length - y) rfl rfl rfl zent hF
    rintro ⟨G1, x, k1, v1⟩ hy hk1 hk1L hr1 hg1
    dsimp only at hy hk1 hk1L hr1 hg1 ⊢
    rw [hy] at hF
    simp only at hF
    by_cases hlt : k1 < L.length
    · have hne : L.drop k1 ≠ [] := fun h => by have := congrArg List.length h; simp at this; omega
      rw [if_neg hne, List.length_drop, sub_sub' hk1L] at hF
      ((repeat' (first|refine zza ?_|refine zc9 ?_|refine zzb fun w hw => ?_|refine zzh fun _ => ?_|refine zzi fun _ _ => ?_|refine zzj (fun _ => ?_) fun _ => ?_)); (repeat' (refine CW_seq ?_; (repeat' (first|refine zza ?_|refine zc9 ?_|refine zzb fun w hw => ?_|refine zzh fun _ => ?_|refine zzi fun _ _ => ?_|refine zzj (fun _ => ?_) fun _ => ?_)))))
      refine WL_callPm (m1 := [prs b5 p L.length c k1 0]) (M := [prs b5 p L.length c k1 0]) (G := G1) (r := [blk b2 22 #[.slice none 0 0], blk b3 3 #[.int .i64 0], blk b4 28 #[.nilIface]]) zent rfl rfl rfl (fun W fp hO hS => par_fail b5 p L.length c k1 0 G1 W fp hO hS) ?_
      ((repeat' (first|refine zza ?_|refine zc9 ?_|refine zzb fun w hw => ?_|refine zzh fun _ => ?_|refine zzi fun _ _ => ?_|refine zzj (fun _ => ?_) fun _ => ?_)); (repeat' (refine CW_seq ?_; (repeat' (first|refine zza ?_|refine zc9 ?_|refine zzb fun w hw => ?_|refine zzh fun _ => ?_|refine zzi fun _ _ => ?_|refine zzj (fun _ => ?_) fun _ => ?_)))))
      exact hpan _ _ _ _ _ k1 rfl rfl rfl zent hF
    · have hk : k1 = L.length := by omega
      subst hk
      rw [List.drop_length, if_pos rfl] at hF
      obtain ⟨c1, c2, c3⟩ := linP_can ⟨hL200, hT⟩ hy
      obtain ⟨T, u, f, rfl, hM, hFn, hcall⟩ := line_flat c1 c2 c3 hr1
      have hLi : ¬ (L.length : Int) < (L.length : Int) := by omega
      ((repeat' (first|refine zza ?_|refine zc9 ?_|refine zzb fun w hw => ?_|refine zzh fun _ => ?_|refine zzi fun _ _ => ?_|refine zzj (fun _ => ?_) fun _ => ?_)); (repeat' (refine CW_seq ?_; (repeat' (first|refine zza ?_|refine zc9 ?_|refine zzb fun w hw => ?_|refine zzh fun _ => ?_|refine zzi fun _ _ => ?_|refine zzj (fun _ => ?_) fun _ => ?_)))))
      refine WL_callMG (T := T) (u := u) (MM := hM) (S := hFn) rfl (m1 := [nsl none 0 0 []]) (r := [blk b2 22 #[.slice none 0 0], blk b3 3 #[.int .i64 0], blk b4 28 #[.nilIface]]) (X := Rd × List NodM × Option Addr × Nat) (V := fun z => .slice z.2.2.1 (([] : List NodM).length + (lineN x).length) z.2.2.2) (Gx := fun z => z.1) (M := fun z => [nsl z.2.2.1 (([] : List NodM).length + (lineN x).length) z.2.2.2 ([] ++ z.2.1)]) (I := fun z => z.2.1.map NodM.nod = lineN x ∧ ∀ y ∈ z.2.1, NodG z.1 y) (Ent.cons zpk (Ent.nilown (Ent.cons zpk (Ent.cons zpk (Ent.cons zpk Ent.nil))))) rfl rfl rfl (fun W fp' _ hO hS _ => hcall W fp' hO hS) ?_
      rintro ⟨G2, ns, q, c'⟩ ⟨hns, hgn⟩ hg2
      dsimp only at hns hgn hg2 ⊢
      have hnl : ([] : List NodM).length + (lineN x).length = ns.length := by rw [← hns]; simp
      rw [hnl, List.nil_append]
      ((repeat' (first|refine zza ?_|refine zc9 ?_|refine zzb fun w hw => ?_|refine zzh fun _ => ?_|refine zzi fun _ _ => ?_|refine zzj (fun _ => ?_) fun _ => ?_)); (repeat' (refine CW_seq ?_; (repeat' (first|refine zza ?_|refine zc9 ?_|refine zzb fun w hw => ?_|refine zzh fun _ => ?_|refine zzi fun _ _ => ?_|refine zzj (fun _ => ?_) fun _ => ?_)))))
      refine EX_retD1 rfl fun a w' hf hm => (tparse_idle b2 b3 b4 w').mono ?_
      rintro e' u' w2 ⟨rfl, rfl, hb⟩
      have hm2 := hm.grow hb
      have hm3 : Holds u0 [] (ro u0 [] G2 :: [nsl q ns.length c' ns]) w2 := hm2.ent zent
      refine ⟨_, rfl, rfl, _, results_t3 rfl (hf.get 2 _ rfl) (hf.get 3 _ rfl) (hf.get 4 _ rfl) (hm2.blk zpk) (hm2.blk zpk) (hm2.blk zpk), ?_⟩
      refine ⟨ns, q, c', by rw [hF]; exact hns, (row_sl (enc := nodE) (fun _ => rfl) (by decide) hm3 (.there .here)).2, fun y hy => (hgn y hy).mono (hm3.le .here), by rw [hF, errV_zero], hm3.below⟩
end Go.Proofs.YtngeooflfkpikaaGreatDoor
