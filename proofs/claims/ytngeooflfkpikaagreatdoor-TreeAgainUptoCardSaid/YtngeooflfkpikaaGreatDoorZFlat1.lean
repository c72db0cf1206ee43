/-
  tree: an expression's nodes, one behind the other: numbers, text, a name, an argument; the nodes of many.
  tree: an expression's nodes: those of many expressions, of functions, of indices.
  tree: an expression's nodes: a function between two, indices; any expression.
  tree: any expression's nodes; those of a line that gives a name a value.
-/
import Derived.Test.YtngeooflfkpikaaGreatDoorZGo
import Derived.Test.YtngeooflfkpikaaGreatDoorZParse5
import Derived.Test.YtngeooflfkpikaaGreatDoorZPar
import Derived.Test.YtngeooflfkpikaaGreatDoorZParseCan
namespace Go.Proofs.YtngeooflfkpikaaGreatDoor
open Go.RowKit
abbrev nsl (p : Option Addr) (n c : Nat) (xs : List NodM) : HP := sl 44 7 p n c (xs.flatMap nodE)
/-- what is told where nodes are put behind others -/
def FlGot (xs : List NodM) (ns : List Nod) (G : Rd) (w : World) (fp : List Nat) (e : Ending) (w' : World) : Prop :=
  ∃ z : Rd × List NodM × Option Addr × Nat, (z.2.1.map NodM.nod = ns ∧ ∀ x ∈ z.2.1, NodG z.1 x) ∧ e = .returned (.slice z.2.2.1 (xs.length + ns.length) z.2.2.2) ∧ Rd.grow w G z.1 ∧ Holds w fp (ro w fp z.1 :: [nsl z.2.2.1 (xs.length + ns.length) z.2.2.2 (xs ++ z.2.1)]) w'
theorem nsl_snoc (xs : List NodM) (x : NodM) : xs.flatMap nodE ++ nodE x = (xs ++ [x]).flatMap nodE := by simp
set_option maxRecDepth 100000 in
theorem flat_nums (p : Option Addr) (c : Nat) (xs : List NodM) (ip : Option Addr) (ic : Nat) (is : List Int) (G : Rd) (u0 : World) (fp : List Nat) (hI : Row encI 1 G ip ic is) (hne : 0 < is.length) (hil : is.length ≤ 200) (hx : xs.length ≤ 1000) (h64 : ∀ x ∈ is, I64 x) (hO : Own [nsl p xs.length c xs] fp u0) (hS : Rd.sub G fp u0) :
    Calls Tryz.prog 322 #[.agg #[.slice ip is.length ic], .slice p xs.length c] u0 (FlGot xs [⟨1, 0, 0, 0, 0, is, []⟩] G u0 fp) := by
  refine enterR (args := [_, _]) hS hO Tryz.func322 rfl Tryz.ntmps322 (by simp) ?_
  clear hO hS
  ((repeat' (first|refine zza ?_|refine zc9 ?_|refine zzb fun w hw => ?_|refine zzh fun _ => ?_|refine zzi fun _ _ => ?_|refine zzj (fun _ => ?_) fun _ => ?_)); (repeat' (refine CW_seq ?_; (repeat' (first|refine zza ?_|refine zc9 ?_|refine zzb fun w hw => ?_|refine zzh fun _ => ?_|refine zzi fun _ _ => ?_|refine zzj (fun _ => ?_) fun _ => ?_)))))
  refine WL_ent (Ent.nilFrs (e := 3) (sz := 1) (w0 := u0) Ent.refl) ?_
  apply WL_appendRowF (enc := encI) (sz := 1) (fun _ => rfl) (by decide) (fun x _ u hu => by simp [encI] at hu; subst hu; rfl) hI hne rfl rfl .here (.there (.there .here)) (by omega) (by omega) rfl rfl
  intro q2 c2
  rw [Nat.zero_add]
  ((repeat' (first|refine zza ?_|refine zc9 ?_|refine zzb fun w hw => ?_|refine zzh fun _ => ?_|refine zzi fun _ _ => ?_|refine zzj (fun _ => ?_) fun _ => ?_)); (repeat' (refine CW_seq ?_; (repeat' (first|refine zza ?_|refine zc9 ?_|refine zzb fun w hw => ?_|refine zzh fun _ => ?_|refine zzi fun _ _ => ?_|refine zzj (fun _ => ?_) fun _ => ?_)))))
  rename_i b2 q c'
  obtain ⟨G', g', r', h'⟩ := Holds.toRoF (w0 := u0) (F := fp) (G := G) (α := Int) (enc := encI) (sz := 1) (fun _ => rfl) (by decide) (e := 3) (n := is.length) (p := q2) (c := c2) (xs := is) (r := [nsl q (xs.length + 1) c' (xs ++ [⟨1, 0, 0, 0, 0, ⟨q2, c2, is⟩, []⟩])]) (hw.ent (by unfold nsl; rw [← nsl_snoc]; exact zent))
  refine ⟨(G', [⟨1, 0, 0, 0, 0, ⟨q2, c2, is⟩, []⟩], q, c'), ⟨rfl, fun x hx => ?_⟩, rfl, g', h'⟩
  obtain rfl : x = ⟨1, 0, 0, 0, 0, ⟨q2, c2, is⟩, []⟩ := by simpa using hx
  exact ⟨by simp, r', by dsimp only; omega, h64, by simp [I64], by simp [I64], by simp [I64], by simp [I64], by simp [I64]⟩
theorem NodG.leaf {G : Rd} {op : Int} {text : List UInt8} (h : I64 op) (ht : text.length ≤ 4294967280) : NodG G ⟨op, 0, 0, 0, 0, ⟨none, 0, []⟩, text⟩ := ⟨ht, Row.nil _ _ _, by simp, by simp, h, by simp [I64], by simp [I64], by simp [I64], by simp [I64]⟩
theorem FlGot.one {xs : List NodM} {x : NodM} {G : Rd} {w : World} {fp : List Nat} {q : Option Addr} {c' : Nat} {w' : World} (hx : NodG G x) (h : Holds w fp (ro w fp G :: [nsl q (xs.length + 1) c' (xs ++ [x])]) w') : FlGot xs [x.nod] G w fp (.returned (.slice q (xs.length + 1) c')) w' :=
  ⟨(G, [x], q, c'), ⟨rfl, fun y hy => (show y = x by simpa using hy) ▸ hx⟩, rfl, Rd.grow_refl _ _, h⟩
set_option maxRecDepth 100000 in
theorem flat_text (p : Option Addr) (c : Nat) (xs : List NodM) (text : List UInt8) (G : Rd) (w : World) (fp : List Nat) (ht : text.length ≤ 4294967280) (hx : xs.length ≤ 1000) (hO : Own [nsl p xs.length c xs] fp w) (hS : Rd.sub G fp w) :
    Calls Tryz.prog 323 #[.agg #[.string ⟨text.toArray⟩], .slice p xs.length c] w (FlGot xs [⟨2, 0, 0, 0, 0, [], text⟩] G w fp) := by
  refine enterR (args := [_, _]) hS hO Tryz.func323 rfl Tryz.ntmps323 (by simp) ?_
  clear hO hS
  ((repeat' (first|refine zza ?_|refine zc9 ?_|refine zzb fun w hw => ?_|refine zzh fun _ => ?_|refine zzi fun _ _ => ?_|refine zzj (fun _ => ?_) fun _ => ?_)); (repeat' (refine CW_seq ?_; (repeat' (first|refine zza ?_|refine zc9 ?_|refine zzb fun w hw => ?_|refine zzh fun _ => ?_|refine zzi fun _ _ => ?_|refine zzj (fun _ => ?_) fun _ => ?_)))))
  exact FlGot.one (x := ⟨2, 0, 0, 0, 0, ⟨none, 0, []⟩, text⟩) (NodG.leaf (by simp [I64]) ht) (hw.ent (by unfold nsl; rw [← nsl_snoc]; exact zent))
set_option maxRecDepth 100000 in
theorem flat_name (p : Option Addr) (c : Nat) (xs : List NodM) (text : List UInt8) (G : Rd) (w : World) (fp : List Nat) (ht : text.length ≤ 4294967280) (hx : xs.length ≤ 1000) (hO : Own [nsl p xs.length c xs] fp w) (hS : Rd.sub G fp w) :
    Calls Tryz.prog 319 #[.agg #[.string ⟨text.toArray⟩], .slice p xs.length c] w (FlGot xs [⟨3, 0, 0, 0, 0, [], text⟩] G w fp) := by
  refine enterR (args := [_, _]) hS hO Tryz.func319 rfl Tryz.ntmps319 (by simp) ?_
  clear hO hS
  ((repeat' (first|refine zza ?_|refine zc9 ?_|refine zzb fun w hw => ?_|refine zzh fun _ => ?_|refine zzi fun _ _ => ?_|refine zzj (fun _ => ?_) fun _ => ?_)); (repeat' (refine CW_seq ?_; (repeat' (first|refine zza ?_|refine zc9 ?_|refine zzb fun w hw => ?_|refine zzh fun _ => ?_|refine zzi fun _ _ => ?_|refine zzj (fun _ => ?_) fun _ => ?_)))))
  exact FlGot.one (x := ⟨3, 0, 0, 0, 0, ⟨none, 0, []⟩, text⟩) (NodG.leaf (by simp [I64]) ht) (hw.ent (by unfold nsl; rw [← nsl_snoc]; exact zent))
set_option maxRecDepth 100000 in
theorem flat_arg (p : Option Addr) (c : Nat) (xs : List NodM) (op : Int) (G : Rd) (w : World) (fp : List Nat) (ho : I64 op) (hx : xs.length ≤ 1000) (hO : Own [nsl p xs.length c xs] fp w) (hS : Rd.sub G fp w) :
    Calls Tryz.prog 324 #[.agg #[.int .i64 op], .slice p xs.length c] w (FlGot xs [⟨op, 0, 0, 0, 0, [], []⟩] G w fp) := by
  refine enterR (args := [_, _]) hS hO Tryz.func324 rfl Tryz.ntmps324 (by simp) ?_
  clear hO hS
  ((repeat' (first|refine zza ?_|refine zc9 ?_|refine zzb fun w hw => ?_|refine zzh fun _ => ?_|refine zzi fun _ _ => ?_|refine zzj (fun _ => ?_) fun _ => ?_)); (repeat' (refine CW_seq ?_; (repeat' (first|refine zza ?_|refine zc9 ?_|refine zzb fun w hw => ?_|refine zzh fun _ => ?_|refine zzi fun _ _ => ?_|refine zzj (fun _ => ?_) fun _ => ?_)))))
  exact FlGot.one (x := ⟨op, 0, 0, 0, 0, ⟨none, 0, []⟩, []⟩) (NodG.leaf ho (by simp)) (hw.ent (by unfold nsl; rw [← nsl_snoc]; exact zent))
/-- a function's node -/
theorem fun_node (aop af ag n op : Int) (v : Value) (w : World) :
    Calls Tryz.prog 326 #[.agg #[.int .i64 aop, .int .i64 af, .int .i64 ag, .int .i64 n, v], .int .i64 op] w fun e w' => e = .returned (.agg #[.int .i64 op, .int .i64 aop, .int .i64 af, .int .i64 ag, .int .i64 n, .slice none 0 0, .string ⟨#[]⟩]) ∧ Below w.heap.size w w' := by
  refine enter (args := [_, _]) (m := []) (F := []) Tryz.func326 rfl Tryz.ntmps326 (by simp) rfl ?_
  ((repeat' (first|refine zza ?_|refine zc9 ?_|refine zzb fun w hw => ?_|refine zzh fun _ => ?_|refine zzi fun _ _ => ?_|refine zzj (fun _ => ?_) fun _ => ?_)); (repeat' (refine CW_seq ?_; (repeat' (first|refine zza ?_|refine zc9 ?_|refine zzb fun w hw => ?_|refine zzh fun _ => ?_|refine zzi fun _ _ => ?_|refine zzj (fun _ => ?_) fun _ => ?_)))))
  exact ⟨rfl, hw.below⟩
end Go.Proofs.YtngeooflfkpikaaGreatDoor
namespace Go.Proofs.YtngeooflfkpikaaGreatDoor
open Go.RowKit
theorem meth_of {P : Program} {T : TypeId} {name : String} {f : FuncId} {d : TypeDesc} (hm : ((P.info? T).bind fun i => (i.methods.find? (·.name == name)).map fun m => (m.path, m.func)) = some (#[], some (f, false))) (hd : P.underlying T = some d) (hp : notPtr d = true) : MethT P T name f := by
  cases hi : P.info? T with
  | none => rw [hi] at hm; cases hm
  | some i =>
    rw [hi] at hm
    exact methT_of (n := P.types.size + 99) rfl hi hm hd hp
instance : MethT Tryz.prog 161 "ravelin/tree.flat" 322 := meth_of (by kernel_rfl) Tryz.underlying161 rfl
instance : MethT Tryz.prog 162 "ravelin/tree.flat" 323 := meth_of (by kernel_rfl) Tryz.underlying162 rfl
instance : MethT Tryz.prog 146 "ravelin/tree.flat" 319 := meth_of (by kernel_rfl) Tryz.underlying146 rfl
instance : MethT Tryz.prog 164 "ravelin/tree.flat" 324 := meth_of (by kernel_rfl) Tryz.underlying164 rfl
instance : MethT Tryz.prog 170 "ravelin/tree.flat" 325 := meth_of (by kernel_rfl) Tryz.underlying170 rfl
instance : MethT Tryz.prog 175 "ravelin/tree.flat" 327 := meth_of (by kernel_rfl) Tryz.underlying175 rfl
instance : MethT Tryz.prog 177 "ravelin/tree.flat" 328 := meth_of (by kernel_rfl) Tryz.underlying177 rfl
instance : MethT Tryz.prog 148 "ravelin/tree.flat" 320 := meth_of (by kernel_rfl) Tryz.underlying148 rfl
/-- the contract of an expression's own method -/
def FlatC (e : Ex) : Prop := ∀ (G : Rd) (v : Value), e.rep G v → ∃ (T : TypeId) (u : Value) (f : FuncId), v = .iface T u ∧ MethT Tryz.prog T "ravelin/tree.flat" f ∧ FnT Tryz.prog f ∧
  ∀ (p : Option Addr) (c : Nat) (xs : List NodM) (w : World) (fp : List Nat), xs.length + e.flat.length ≤ 1000 → Own [nsl p xs.length c xs] fp w → Rd.sub G fp w → Calls Tryz.prog f #[u, .slice p xs.length c] w (FlGot xs e.flat G w fp)
theorem Exs.of_list' : ∀ b : Exs, Exs.of b.list = b
  | .nil => rfl
  | .cons e r => by simp [Exs.list, Exs.of, Exs.of_list' r]
theorem Exs.of_flat : ∀ es : List Ex, (Exs.of es).flat = es.flatMap Ex.flat
  | [] => rfl
  | e :: es => by simp [Exs.of, Exs.flat, Exs.of_flat es]
theorem Exs.of_rep_at {G : Rd} : ∀ {es : List Ex} {vs : List Value}, (Exs.of es).rep G vs → vs.length = es.length ∧ ∀ (i : Nat) (e : Ex), es[i]? = some e → ∃ v, vs[i]? = some v ∧ e.rep G v
  | [], vs, h => by
    have : vs = [] := h
    subst this
    exact ⟨rfl, fun i e h => by simp at h⟩
  | e :: es, vs, h => by
    obtain ⟨v, t, rfl, h1, h2⟩ := h
    obtain ⟨h3, h4⟩ := Exs.of_rep_at h2
    refine ⟨by simp [h3], fun i e' he => ?_⟩
    cases i with
    | zero => simp at he; subst he; exact ⟨v, rfl, h1⟩
    | succ i => exact h4 i e' (by simpa using he)
theorem eflat_take {es : List Ex} {i : Nat} {e : Ex} (h : es[i]? = some e) : (es.take (i + 1)).flatMap Ex.flat = (es.take i).flatMap Ex.flat ++ e.flat := by
  rw [List.take_add_one, h]; simp
theorem flat_take_le (es : List Ex) (i : Nat) : ((es.take i).flatMap Ex.flat).length ≤ (es.flatMap Ex.flat).length := by
  have : es.flatMap Ex.flat = (es.take i).flatMap Ex.flat ++ (es.drop i).flatMap Ex.flat := by rw [← List.flatMap_append, List.take_append_drop]
  rw [this, List.length_append]; omega
set_option maxRecDepth 100000 in
theorem flat_all (es : List Ex) (hF : ∀ e ∈ es, FlatC e) (p : Option Addr) (c : Nat) (xs : List NodM) (ep : Option Addr) (ec : Nat) (vs : List Value) (G : Rd) (u0 : World) (fp : List Nat) (hr : (Exs.of es).rep G vs) (hR : Row encV 1 G ep ec vs) (hx : xs.length + (es.flatMap Ex.flat).length ≤ 1000) (hO : Own [nsl p xs.length c xs] fp u0) (hS : Rd.sub G fp u0) :
    Calls Tryz.prog 321 #[.slice p xs.length c, .slice ep vs.length ec] u0 (FlGot xs (es.flatMap Ex.flat) G u0 fp) := by
  refine enterR (args := [_, _]) hS hO Tryz.func321 rfl Tryz.ntmps321 (by simp) ?_
  clear hO hS
  obtain ⟨hvl, hat⟩ := Exs.of_rep_at hr
  have hmax := hR.max
  unfold maxLen at hmax
  have hle := hR.le
  ((repeat' (first|refine zza ?_|refine zc9 ?_|refine zzb fun w hw => ?_|refine zzh fun _ => ?_|refine zzi fun _ _ => ?_|refine zzj (fun _ => ?_) fun _ => ?_)); (repeat' (refine CW_seq ?_; (repeat' (first|refine zza ?_|refine zc9 ?_|refine zzb fun w hw => ?_|refine zzh fun _ => ?_|refine zzi fun _ _ => ?_|refine zzj (fun _ => ?_) fun _ => ?_)))))
  refine CW_loopK [(7,_),(8,_)] zcov (fun x : Nat × Rd × List NodM × Option Addr × Nat => [(0, .slice x.2.2.2.1 (xs.length + x.2.2.1.length) x.2.2.2.2), (9, .int .i64 (x.1 : Int))]) (fun x => [nsl x.2.2.2.1 (xs.length + x.2.2.1.length) x.2.2.2.2 (xs ++ x.2.2.1), ro u0 fp x.2.1]) (fun x => x.1 ≤ vs.length ∧ x.2.2.1.map NodM.nod = (es.take x.1).flatMap Ex.flat ∧ (∀ y ∈ x.2.2.1, NodG x.2.1 y) ∧ Rd.grow u0 G x.2.1) (fun x => vs.length - x.1) (0, G, [], p, c) ⟨Nat.zero_le _, rfl, by simp, Rd.grow_refl _ _⟩ zcov (by dsimp only; rw [List.append_nil]; exact zent) ?_
  rintro ⟨i, Gi, ns, q, c'⟩ ⟨hi, hns, hgn, hgr⟩
  dsimp only at hi hns hgn hgr ⊢
  by_cases hlt : i < vs.length
  · obtain ⟨e, he⟩ : ∃ e, es[i]? = some e := ⟨es[i]'(by omega), by simp [show i < es.length by omega]⟩
    obtain ⟨v, hv, hrep⟩ := hat i e he
    obtain ⟨T, u, f, rfl, hM, hFn, hcall⟩ := hF e (List.mem_of_getElem? he) Gi v (Ex.rep_mono hgr.1 hrep)
    have hft := eflat_take he
    have hfl := flat_take_le es (i + 1)
    rw [hft, List.length_append] at hfl
    have hnl : ns.length = ((es.take i).flatMap Ex.flat).length := by rw [← hns, List.length_map]
    clear hat
    ((repeat' (first|refine zza ?_|refine zc9 ?_|refine zzb fun w hw => ?_|refine zzh fun _ => ?_|refine zzi fun _ _ => ?_|refine zzj (fun _ => ?_) fun _ => ?_)); (repeat' (refine CW_seq ?_; (repeat' (first|refine zza ?_|refine zc9 ?_|refine zzb fun w hw => ?_|refine zzh fun _ => ?_|refine zzi fun _ _ => ?_|refine zzj (fun _ => ?_) fun _ => ?_)))))
    refine WL_op rfl rfl (y_load (v := .iface T u) rfl (rd_row (enc := encV) (u := Value.iface T u) (hR.mono hgr.1) (.there .here) hv)) ?_
    ((repeat' (first|refine zza ?_|refine zc9 ?_|refine zzb fun w hw => ?_|refine zzh fun _ => ?_|refine zzi fun _ _ => ?_|refine zzj (fun _ => ?_) fun _ => ?_)); (repeat' (refine CW_seq ?_; (repeat' (first|refine zza ?_|refine zc9 ?_|refine zzb fun w hw => ?_|refine zzh fun _ => ?_|refine zzi fun _ _ => ?_|refine zzj (fun _ => ?_) fun _ => ?_)))))
    refine WL_callMG (T := T) (u := u) (MM := hM) (S := hFn) rfl (m1 := [nsl q (xs.length + ns.length) c' (xs ++ ns)]) (r := []) (X := Rd × List NodM × Option Addr × Nat) (V := fun z => .slice z.2.2.1 ((xs ++ ns).length + e.flat.length) z.2.2.2) (Gx := fun z => z.1) (M := fun z => [nsl z.2.2.1 ((xs ++ ns).length + e.flat.length) z.2.2.2 ((xs ++ ns) ++ z.2.1)]) (I := fun z => z.2.1.map NodM.nod = e.flat ∧ ∀ x ∈ z.2.1, NodG z.1 x) zent rfl rfl rfl (fun W fp' _ hO hS _ => ?_) ?_
    · have := hcall q c' (xs ++ ns) W fp' (by rw [List.length_append]; omega) (by rw [List.length_append]; exact hO) hS
      rw [List.length_append] at this
      refine this.mono ?_
      rintro e' w' ⟨z, h1, h2, h3, h4⟩
      exact ⟨z, h1, h2, h3, h4⟩
    · rintro ⟨G2, n2, q2, c2⟩ ⟨h1, h2⟩ hg2
      dsimp only at h1 h2 hg2 ⊢
      have hl2 : n2.length = e.flat.length := by rw [← h1, List.length_map]
      have e1 : (xs ++ ns).length + e.flat.length = xs.length + (ns ++ n2).length := by simp [hl2]; omega
      rw [e1, List.append_assoc]
      ((repeat' (first|refine zza ?_|refine zc9 ?_|refine zzb fun w hw => ?_|refine zzh fun _ => ?_|refine zzi fun _ _ => ?_|refine zzj (fun _ => ?_) fun _ => ?_)); (repeat' (refine CW_seq ?_; (repeat' (first|refine zza ?_|refine zc9 ?_|refine zzb fun w hw => ?_|refine zzh fun _ => ?_|refine zzi fun _ _ => ?_|refine zzj (fun _ => ?_) fun _ => ?_)))))
      refine EX_loop' (i + 1, G2, ns ++ n2, q2, c2) ⟨zcov, zent, by dsimp only; omega, by dsimp only; omega, by dsimp only; rw [List.map_append, hns, h1, hft], fun y hy => ?_, Rd.grow_tr hgr hg2⟩
      rcases List.mem_append.1 hy with hy | hy
      · exact (hgn y hy).mono hg2.1
      · exact h2 y hy
  · have hiv : i = es.length := by omega
    rw [hiv, List.take_length] at hns
    have hnl : ns.length = (es.flatMap Ex.flat).length := by rw [← hns, List.length_map]
    clear hat
    ((repeat' (first|refine zza ?_|refine zc9 ?_|refine zzb fun w hw => ?_|refine zzh fun _ => ?_|refine zzi fun _ _ => ?_|refine zzj (fun _ => ?_) fun _ => ?_)); (repeat' (refine CW_seq ?_; (repeat' (first|refine zza ?_|refine zc9 ?_|refine zzb fun w hw => ?_|refine zzh fun _ => ?_|refine zzi fun _ _ => ?_|refine zzj (fun _ => ?_) fun _ => ?_)))))
    exact ⟨(Gi, ns, q, c'), ⟨hns, hgn⟩, by rw [hnl], hgr, by dsimp only; rw [← hnl]; exact hw.ent zent⟩
theorem only_one {P : Ex → Prop} {r : Ex} (hr : P r) : ∀ e ∈ [r], P e := fun e he => by
  obtain rfl : e = r := by simpa using he
  exact hr
theorem flat_allN (es : List Ex) (hF : ∀ e ∈ es, FlatC e) (p : Option Addr) (c n : Nat) (xs : List NodM) (hn : xs.length = n) (ep : Option Addr) (ec en : Nat) (vs : List Value) (hen : vs.length = en) (G : Rd) (u0 : World) (fp : List Nat) (hr : (Exs.of es).rep G vs) (hR : Row encV 1 G ep ec vs) (hx : n + (es.flatMap Ex.flat).length ≤ 1000) (hO : Own [nsl p n c xs] fp u0) (hS : Rd.sub G fp u0) :
    Calls Tryz.prog 321 #[.slice p n c, .slice ep en ec] u0 fun e w' => ∃ z : Rd × List NodM × Option Addr × Nat, (z.2.1.map NodM.nod = es.flatMap Ex.flat ∧ ∀ x ∈ z.2.1, NodG z.1 x) ∧ e = .returned (.slice z.2.2.1 (n + (es.flatMap Ex.flat).length) z.2.2.2) ∧ Rd.grow u0 G z.1 ∧ Holds u0 fp (ro u0 fp z.1 :: [nsl z.2.2.1 (n + (es.flatMap Ex.flat).length) z.2.2.2 (xs ++ z.2.1)]) w' := by
  subst hn hen
  exact (flat_all es hF p c xs ep ec vs G u0 fp hr hR hx hO hS).mono fun _ _ h => h
set_option maxHeartbeats 4000000 in
set_option maxRecDepth 100000 in
theorem flat_one (n : Nod) (b : Exs) (r : Ex) (hb : ∀ e ∈ b.list, FlatC e) (hr : FlatC r) (hn : n.op = 6 ∧ n.nums = [] ∧ n.text = [] ∧ I64 n.aop ∧ I64 n.af ∧ I64 n.ag ∧ I64 n.n) : FlatC (.one n b r) := by
  intro G v hrep
  obtain ⟨ep, ec, vs, u, rfl, hR, hbr, hrr⟩ := hrep
  refine ⟨170, _, 325, rfl, inferInstance, inferInstance, fun p c xs u0 fp hx hO hS => ?_⟩
  obtain ⟨es, rfl⟩ : ∃ es, b = Exs.of es := ⟨b.list, (Exs.of_list' b).symm⟩
  rw [Exs.of_list] at hb
  obtain ⟨op, aop, af, ag, nn, nums, text⟩ := n
  obtain ⟨rfl, rfl, rfl, h1, h2, h3, h4⟩ := hn
  dsimp only at h1 h2 h3 h4 hx ⊢
  obtain ⟨T, uu, rfl⟩ := Ex.rep_iface hrr
  have hfl : (Ex.one ⟨6, aop, af, ag, nn, [], []⟩ (Exs.of es) r).flat = ⟨6, aop, af, ag, nn, [], []⟩ :: (es.flatMap Ex.flat ++ r.flat) := by rw [← Exs.of_flat]; rfl
  rw [hfl] at hx ⊢
  simp only [List.length_cons, List.length_append] at hx
  clear hfl
  refine enterR (args := [_, _]) hS hO Tryz.func325 rfl Tryz.ntmps325 (by simp) ?_
  clear hO
  (repeat' (first|refine zza ?_|refine zzb fun w hw => ?_|refine zzh fun _ => ?_|refine zzi fun _ _ => ?_|refine zzj (fun _ => ?_) fun _ => ?_))
  rename_i bx
  refine CW_ent (m' := [ro u0 fp G, nsl p xs.length c xs, blk bx 170 #[.int .i64 aop, .int .i64 af, .int .i64 ag, .int .i64 nn, .slice ep vs.length ec, .iface T uu], ro u0 fp G]) (Ent.cons zpk (Ent.cons zpk (Ent.cons zpk (Ent.roSub hS Ent.nil)))) ?_
  refine CW_par 13 [0, 1, 2, 6, 7, 8, 10, 11] [3, 4, 5, 9, 12] [blk bx 170 #[.int .i64 aop, .int .i64 af, .int .i64 ag, .int .i64 nn, .slice ep vs.length ec, .iface T uu], ro u0 fp G] (pm := [ro u0 fp G, nsl p xs.length c xs]) Ent.refl (by kernel_rfl) (by decide +kernel) ?_
  (refine WP_op rfl rfl rfl zyi ?_)
  (refine WP_op rfl rfl rfl zyi ?_)
  (refine WP_op rfl rfl rfl zyi ?_)
  (refine WP_op rfl rfl rfl zyi ?_)
  (refine WP_op rfl rfl rfl zyi ?_)
  (refine WP_op rfl rfl rfl zyi ?_)
  (refine WP_op rfl rfl rfl zyi ?_)
  (refine WP_op rfl rfl rfl zyi ?_)
  refine WP_par (fun ρ m => ∃ (z : Rd × List NodM × Option Addr × Nat) (bb : Nat), (z.2.1.map NodM.nod = es.flatMap Ex.flat ∧ (∀ x ∈ z.2.1, NodG z.1 x) ∧ Rd.grow u0 G z.1) ∧ ρ.find 14 = some (.slice z.2.2.1 (xs.length + 1 + (es.flatMap Ex.flat).length) z.2.2.2) ∧ ρ.find 17 = some (.slice (some ⟨bb, 0, none⟩) 1 1) ∧ m = [ro u0 fp z.1, nsl z.2.2.1 (xs.length + 1 + (es.flatMap Ex.flat).length) z.2.2.2 ((xs ++ [(⟨6, aop, af, ag, nn, ⟨none, 0, []⟩, []⟩ : NodM)]) ++ z.2.1)] ++ [frs u0 (blk bb 93 #[.iface T uu])]) (m1 := [ro u0 fp G, nsl p xs.length c xs]) Ent.refl (by decide +kernel) ?_ ?_
  · rintro ρ m ⟨⟨G1, ns, q, c'⟩, bb, ⟨hns, hgn, hgr⟩, f14, f17, rfl⟩
    dsimp only at hns hgn hgr f14 f17 ⊢
    refine WL_cov (ρ' := [(14, .slice q (xs.length + 1 + (es.flatMap Ex.flat).length) c'), (17, .slice (some ⟨bb, 0, none⟩) 1 1)]) (Cov.cons f14 rfl (Cov.cons f17 rfl Cov.nil)) ?_
    refine WL_ent (m' := [ro u0 fp G1, frs u0 (sl 93 1 (some ⟨bb, 0, none⟩) 1 1 ([Value.iface T uu].flatMap encV)), nsl q (xs.length + 1 + (es.flatMap Ex.flat).length) c' ((xs ++ [(⟨6, aop, af, ag, nn, ⟨none, 0, []⟩, []⟩ : NodM)]) ++ ns)]) (Ent.cons .here (Ent.frsMap (.there .here) (fun w f h => blk_sl (n := 1) rfl rfl (by decide) w f h) (Ent.cons .here Ent.nil))) ?_
    refine WL_toRoF (fun _ => rfl) (by decide) fun G2 hg2 hrow => ?_
    have hnl : ns.length = (es.flatMap Ex.flat).length := by rw [← hns, List.length_map]
    have h1000 : xs.length + 1 + (es.flatMap Ex.flat).length + ([r].flatMap Ex.flat).length ≤ 1000 := by simp only [List.flatMap_cons, List.flatMap_nil, List.append_nil]; omega
    have hlen : ((xs ++ [(⟨6, aop, af, ag, nn, ⟨none, 0, []⟩, []⟩ : NodM)]) ++ ns).length = xs.length + 1 + (es.flatMap Ex.flat).length := by simp only [List.length_append, List.length_cons, List.length_nil, hnl]
    refine WL_callG (m1 := [nsl q (xs.length + 1 + (es.flatMap Ex.flat).length) c' ((xs ++ [(⟨6, aop, af, ag, nn, ⟨none, 0, []⟩, []⟩ : NodM)]) ++ ns)]) (r := []) (X := Rd × List NodM × Option Addr × Nat) (V := fun z => .slice z.2.2.1 (xs.length + 1 + (es.flatMap Ex.flat).length + ([r].flatMap Ex.flat).length) z.2.2.2) (Gx := fun z => z.1) (M := fun z => [nsl z.2.2.1 (xs.length + 1 + (es.flatMap Ex.flat).length + ([r].flatMap Ex.flat).length) z.2.2.2 (((xs ++ [(⟨6, aop, af, ag, nn, ⟨none, 0, []⟩, []⟩ : NodM)]) ++ ns) ++ z.2.1)]) (I := fun z => z.2.1.map NodM.nod = [r].flatMap Ex.flat ∧ ∀ x ∈ z.2.1, NodG z.1 x) zent rfl rfl rfl (fun W fp' _ hO hS _ => flat_allN [r] (only_one hr) q c' _ ((xs ++ [(⟨6, aop, af, ag, nn, ⟨none, 0, []⟩, []⟩ : NodM)]) ++ ns) hlen (some ⟨bb, 0, none⟩) 1 1 [.iface T uu] rfl G2 W fp' (Exs.of_rep_one (Ex.rep_mono (Rd.le_trans hgr.1 hg2.1) hrr)) hrow h1000 hO hS) ?_
    rintro ⟨G3, n3, q3, c3⟩ ⟨hn3, hg3n⟩ hg3
    dsimp only at hn3 hg3n hg3 ⊢
    ((repeat' (first|refine zza ?_|refine zc9 ?_|refine zzb fun w hw => ?_|refine zzh fun _ => ?_|refine zzi fun _ _ => ?_|refine zzj (fun _ => ?_) fun _ => ?_)); (repeat' (refine CW_seq ?_; (repeat' (first|refine zza ?_|refine zc9 ?_|refine zzb fun w hw => ?_|refine zzh fun _ => ?_|refine zzi fun _ _ => ?_|refine zzj (fun _ => ?_) fun _ => ?_)))))
    have e2 : [r].flatMap Ex.flat = r.flat := by simp
    rw [e2] at hn3 hw ⊢
    have e3 : xs.length + 1 + (es.flatMap Ex.flat).length + r.flat.length = xs.length + ((⟨6, aop, af, ag, nn, [], []⟩ : Nod) :: (es.flatMap Ex.flat ++ r.flat)).length := by simp only [List.length_cons, List.length_append]; omega
    rw [e3] at hw ⊢
    refine ⟨(G3, (⟨6, aop, af, ag, nn, ⟨none, 0, []⟩, []⟩ : NodM) :: (ns ++ n3), q3, c3), ⟨by simp only [List.map_cons, List.map_append, hns, hn3]; rfl, fun x hx => ?_⟩, rfl, Rd.grow_tr hgr (Rd.grow_tr hg2 hg3), ?_⟩
    · rcases List.mem_cons.1 hx with rfl | hx
      · exact ⟨by simp, Row.nil _ _ _, by simp, by simp, by simp [I64], h4, h1, h2, h3⟩
      · rcases List.mem_append.1 hx with hx | hx
        · exact (hgn x hx).mono (Rd.le_trans hg2.1 hg3.1)
        · exact hg3n x hx
    · dsimp only
      rw [show xs ++ (⟨6, aop, af, ag, nn, ⟨none, 0, []⟩, []⟩ : NodM) :: (ns ++ n3) = ((xs ++ [(⟨6, aop, af, ag, nn, ⟨none, 0, []⟩, []⟩ : NodM)]) ++ ns) ++ n3 by simp]
      exact hw.ent zent
  · refine Pr_par (S1 := [3, 4, 5, 9]) (S2 := [12]) (p1 := fun ρ m => ∃ (z : Rd × List NodM × Option Addr × Nat), (z.2.1.map NodM.nod = es.flatMap Ex.flat ∧ (∀ x ∈ z.2.1, NodG z.1 x) ∧ Rd.grow u0 G z.1) ∧ ρ.find 14 = some (.slice z.2.2.1 (xs.length + 1 + (es.flatMap Ex.flat).length) z.2.2.2) ∧ m = [ro u0 fp z.1, nsl z.2.2.1 (xs.length + 1 + (es.flatMap Ex.flat).length) z.2.2.2 ((xs ++ [(⟨6, aop, af, ag, nn, ⟨none, 0, []⟩, []⟩ : NodM)]) ++ z.2.1)])
      (p2 := fun ρ m => ∃ bb : Nat, ρ.find 17 = some (.slice (some ⟨bb, 0, none⟩) 1 1) ∧ m = [frs u0 (blk bb 93 #[.iface T uu])]) (by decide +kernel) (by decide +kernel) (by decide +kernel) (by decide +kernel) (fun ρ ρ1 ρ2 m1 m2 c1 c2 h1 h2 => ?_) 5 4 1 _ _ _ _ _ _ [ro u0 fp G, nsl p xs.length c xs] [] rfl (fun _ _ => rfl) (fun _ _ => rfl) (fun _ _ h => h) (fun _ _ h => h) (by kernel_rfl) (by kernel_rfl) ?_ ?_
    · obtain ⟨z, a1, a2, rfl⟩ := h1
      obtain ⟨bb, b1, rfl⟩ := h2
      exact ⟨z, bb, a1, c1 _ _ a2, c2 _ _ b1, rfl⟩
    · refine Pr_one 3 (by decide +kernel) ?_
      refine Stp_callV rfl rfl rfl (fun w => fun_node aop af ag nn 6 (.slice ep vs.length ec) w) ?_
      refine Pr_one 4 (by decide +kernel) ?_
      refine Stp_bslice rfl rfl rfl rfl rfl rfl rfl fun b9 => ?_
      refine Pr_one 5 (by decide +kernel) ?_
      refine Stp_append rfl rfl rfl rfl zpk zpk rfl rfl (by omega) (by omega) rfl fun q2 c2 => ?_
      refine Pr_one 9 (by decide +kernel) ?_
      have hlen : (xs ++ [(⟨6, aop, af, ag, nn, ⟨none, 0, []⟩, []⟩ : NodM)]).length = xs.length + 1 := by simp
      refine Stp_callG (m1 := [nsl q2 (xs.length + 1) c2 (xs ++ [(⟨6, aop, af, ag, nn, ⟨none, 0, []⟩, []⟩ : NodM)])]) (r := []) rfl (by unfold nsl; rw [← nsl_snoc]; exact zent) rfl rfl (X := Rd × List NodM × Option Addr × Nat) (V := fun z => .slice z.2.2.1 (xs.length + 1 + (es.flatMap Ex.flat).length) z.2.2.2) (Gx := fun z => z.1) (M := fun z => [nsl z.2.2.1 (xs.length + 1 + (es.flatMap Ex.flat).length) z.2.2.2 ((xs ++ [(⟨6, aop, af, ag, nn, ⟨none, 0, []⟩, []⟩ : NodM)]) ++ z.2.1)]) (I := fun z => z.2.1.map NodM.nod = es.flatMap Ex.flat ∧ ∀ x ∈ z.2.1, NodG z.1 x) (fun W fp' hO hS => flat_allN es hb q2 c2 _ (xs ++ [(⟨6, aop, af, ag, nn, ⟨none, 0, []⟩, []⟩ : NodM)]) hlen ep ec vs.length vs rfl G W fp' hbr hR (by omega) hO hS) ?_
      rintro ⟨G1, ns, q, c'⟩ ⟨hns, hgn⟩ hg1
      exact Pr_end (by decide +kernel) ⟨(G1, ns, q, c'), ⟨hns, hgn, hg1⟩, rfl, rfl⟩
    · refine Pr_one 12 (by decide +kernel) ?_
      refine Stp_bsliceF rfl rfl rfl rfl rfl rfl rfl fun b9 => ?_
      exact Pr_end (by decide +kernel) ⟨b9, rfl, rfl⟩
end Go.Proofs.YtngeooflfkpikaaGreatDoor
namespace Go.Proofs.YtngeooflfkpikaaGreatDoor
open Go.RowKit
set_option maxHeartbeats 8000000 in
set_option maxRecDepth 100000 in
theorem flat_two (n : Nod) (l : Ex) (b : Exs) (r : Ex) (hl : FlatC l) (hb : ∀ e ∈ b.list, FlatC e) (hr : FlatC r) (hn : n.op = 7 ∧ n.nums = [] ∧ n.text = [] ∧ I64 n.aop ∧ I64 n.af ∧ I64 n.ag ∧ I64 n.n) : FlatC (.two n l b r) := by
  intro G v hrep
  obtain ⟨ep, ec, vs, t, u, rfl, hR, hlr, hbr, hrr⟩ := hrep
  refine ⟨175, _, 327, rfl, inferInstance, inferInstance, fun p c xs u0 fp hx hO hS => ?_⟩
  obtain ⟨es, rfl⟩ : ∃ es, b = Exs.of es := ⟨b.list, (Exs.of_list' b).symm⟩
  rw [Exs.of_list] at hb
  obtain ⟨op, aop, af, ag, nn, nums, text⟩ := n
  obtain ⟨rfl, rfl, rfl, h1, h2, h3, h4⟩ := hn
  dsimp only at h1 h2 h3 h4 hx ⊢
  obtain ⟨T, uu, rfl⟩ := Ex.rep_iface hrr
  obtain ⟨TL, ul, rfl⟩ := Ex.rep_iface hlr
  have hfl : (Ex.two ⟨7, aop, af, ag, nn, [], []⟩ l (Exs.of es) r).flat = ⟨7, aop, af, ag, nn, [], []⟩ :: (l.flat ++ (es.flatMap Ex.flat ++ r.flat)) := by rw [← Exs.of_flat]; simp [Ex.flat]
  rw [hfl] at hx ⊢
  simp only [List.length_cons, List.length_append] at hx
  clear hfl
  refine enterR (args := [_, _]) hS hO Tryz.func327 rfl Tryz.ntmps327 (by simp) ?_
  clear hO
  obtain ⟨A, hA⟩ : ∃ A, A = l.flat.length := ⟨_, rfl⟩
  obtain ⟨B, hB⟩ : ∃ B, B = (es.flatMap Ex.flat).length := ⟨_, rfl⟩
  have hA' : ([l].flatMap Ex.flat).length = A := by simp [hA]
  have hR' : ([r].flatMap Ex.flat).length = r.flat.length := by simp
  (repeat' (first|refine zza ?_|refine zzb fun w hw => ?_|refine zzh fun _ => ?_|refine zzi fun _ _ => ?_|refine zzj (fun _ => ?_) fun _ => ?_))
  rename_i bx
  refine CW_ent (m' := [ro u0 fp G, nsl p xs.length c xs, blk bx 175 #[.iface TL ul, .int .i64 aop, .int .i64 af, .int .i64 ag, .int .i64 nn, .slice ep vs.length ec, .iface T uu], ro u0 fp G]) (Ent.cons zpk (Ent.cons zpk (Ent.cons zpk (Ent.roSub hS Ent.nil)))) ?_
  refine CW_par 17 [0, 1, 2, 6, 7, 10, 11, 12, 14, 15] [3, 4, 5, 8, 9, 13, 16] [blk bx 175 #[.iface TL ul, .int .i64 aop, .int .i64 af, .int .i64 ag, .int .i64 nn, .slice ep vs.length ec, .iface T uu], ro u0 fp G] (pm := [ro u0 fp G, nsl p xs.length c xs]) Ent.refl (by kernel_rfl) (by decide +kernel) ?_
  (refine WP_op rfl rfl rfl zyi ?_)
  (refine WP_op rfl rfl rfl zyi ?_)
  (refine WP_op rfl rfl rfl zyi ?_)
  (refine WP_op rfl rfl rfl zyi ?_)
  (refine WP_op rfl rfl rfl zyi ?_)
  (refine WP_op rfl rfl rfl zyi ?_)
  (refine WP_op rfl rfl rfl zyi ?_)
  (refine WP_op rfl rfl rfl zyi ?_)
  (refine WP_op rfl rfl rfl zyi ?_)
  (refine WP_op rfl rfl rfl zyi ?_)
  refine WP_par (fun ρ m => ∃ (z : Rd × List NodM × Option Addr × Nat) (bb : Nat), (z.2.1.map NodM.nod = l.flat ++ es.flatMap Ex.flat ∧ (∀ x ∈ z.2.1, NodG z.1 x) ∧ Rd.grow u0 G z.1) ∧ ρ.find 18 = some (.slice z.2.2.1 (xs.length + 1 + A + B) z.2.2.2) ∧ ρ.find 21 = some (.slice (some ⟨bb, 0, none⟩) 1 1) ∧ m = [ro u0 fp z.1, nsl z.2.2.1 (xs.length + 1 + A + B) z.2.2.2 ((xs ++ [(⟨7, aop, af, ag, nn, ⟨none, 0, []⟩, []⟩ : NodM)]) ++ z.2.1)] ++ [frs u0 (blk bb 93 #[.iface T uu])]) (m1 := [ro u0 fp G, nsl p xs.length c xs]) Ent.refl (by decide +kernel) ?_ ?_
  · rintro ρ m ⟨⟨G1, ns, q, c'⟩, bb, ⟨hns, hgn, hgr⟩, f14, f17, rfl⟩
    dsimp only at hns hgn hgr f14 f17 ⊢
    refine WL_cov (ρ' := [(18, .slice q (xs.length + 1 + A + B) c'), (21, .slice (some ⟨bb, 0, none⟩) 1 1)]) (Cov.cons f14 rfl (Cov.cons f17 rfl Cov.nil)) ?_
    refine WL_ent (m' := [ro u0 fp G1, frs u0 (sl 93 1 (some ⟨bb, 0, none⟩) 1 1 ([Value.iface T uu].flatMap encV)), nsl q (xs.length + 1 + A + B) c' ((xs ++ [(⟨7, aop, af, ag, nn, ⟨none, 0, []⟩, []⟩ : NodM)]) ++ ns)]) (Ent.cons .here (Ent.frsMap (.there .here) (fun w f h => blk_sl (n := 1) rfl rfl (by decide) w f h) (Ent.cons .here Ent.nil))) ?_
    refine WL_toRoF (fun _ => rfl) (by decide) fun G2 hg2 hrow => ?_
    have hnl : ns.length = A + B := by rw [hA, hB, ← List.length_append, ← hns, List.length_map]
    have hlen : ((xs ++ [(⟨7, aop, af, ag, nn, ⟨none, 0, []⟩, []⟩ : NodM)]) ++ ns).length = xs.length + 1 + A + B := by simp only [List.length_append, List.length_cons, List.length_nil, hnl]; omega
    refine WL_callG (m1 := [nsl q (xs.length + 1 + A + B) c' ((xs ++ [(⟨7, aop, af, ag, nn, ⟨none, 0, []⟩, []⟩ : NodM)]) ++ ns)]) (r := []) (X := Rd × List NodM × Option Addr × Nat) (V := fun z => .slice z.2.2.1 (xs.length + 1 + A + B + ([r].flatMap Ex.flat).length) z.2.2.2) (Gx := fun z => z.1) (M := fun z => [nsl z.2.2.1 (xs.length + 1 + A + B + ([r].flatMap Ex.flat).length) z.2.2.2 (((xs ++ [(⟨7, aop, af, ag, nn, ⟨none, 0, []⟩, []⟩ : NodM)]) ++ ns) ++ z.2.1)]) (I := fun z => z.2.1.map NodM.nod = [r].flatMap Ex.flat ∧ ∀ x ∈ z.2.1, NodG z.1 x) zent rfl rfl rfl (fun W fp' _ hO hS _ => flat_allN [r] (only_one hr) q c' _ ((xs ++ [(⟨7, aop, af, ag, nn, ⟨none, 0, []⟩, []⟩ : NodM)]) ++ ns) hlen (some ⟨bb, 0, none⟩) 1 1 [.iface T uu] rfl G2 W fp' (Exs.of_rep_one (Ex.rep_mono (Rd.le_trans hgr.1 hg2.1) hrr)) hrow (by rw [hR']; omega) hO hS) ?_
    rintro ⟨G3, n3, q3, c3⟩ ⟨hn3, hg3n⟩ hg3
    dsimp only at hn3 hg3n hg3 ⊢
    ((repeat' (first|refine zza ?_|refine zc9 ?_|refine zzb fun w hw => ?_|refine zzh fun _ => ?_|refine zzi fun _ _ => ?_|refine zzj (fun _ => ?_) fun _ => ?_)); (repeat' (refine CW_seq ?_; (repeat' (first|refine zza ?_|refine zc9 ?_|refine zzb fun w hw => ?_|refine zzh fun _ => ?_|refine zzi fun _ _ => ?_|refine zzj (fun _ => ?_) fun _ => ?_)))))
    have e2 : [r].flatMap Ex.flat = r.flat := by simp
    rw [e2] at hn3 hw ⊢
    have e3 : xs.length + 1 + A + B + r.flat.length = xs.length + ((⟨7, aop, af, ag, nn, [], []⟩ : Nod) :: (l.flat ++ (es.flatMap Ex.flat ++ r.flat))).length := by simp only [List.length_cons, List.length_append]; omega
    rw [e3] at hw ⊢
    refine ⟨(G3, (⟨7, aop, af, ag, nn, ⟨none, 0, []⟩, []⟩ : NodM) :: (ns ++ n3), q3, c3), ⟨by simp only [List.map_cons, List.map_append, hns, hn3, List.append_assoc]; rfl, fun x hx => ?_⟩, rfl, Rd.grow_tr hgr (Rd.grow_tr hg2 hg3), ?_⟩
    · rcases List.mem_cons.1 hx with rfl | hx
      · exact ⟨by simp, Row.nil _ _ _, by simp, by simp, by simp [I64], h4, h1, h2, h3⟩
      · rcases List.mem_append.1 hx with hx | hx
        · exact (hgn x hx).mono (Rd.le_trans hg2.1 hg3.1)
        · exact hg3n x hx
    · dsimp only
      rw [show xs ++ (⟨7, aop, af, ag, nn, ⟨none, 0, []⟩, []⟩ : NodM) :: (ns ++ n3) = ((xs ++ [(⟨7, aop, af, ag, nn, ⟨none, 0, []⟩, []⟩ : NodM)]) ++ ns) ++ n3 by simp]
      exact hw.ent zent
  · refine Pr_par (S1 := [3, 4, 5, 8, 9, 13]) (S2 := [16]) (p1 := fun ρ m => ∃ (z : Rd × List NodM × Option Addr × Nat), (z.2.1.map NodM.nod = l.flat ++ es.flatMap Ex.flat ∧ (∀ x ∈ z.2.1, NodG z.1 x) ∧ Rd.grow u0 G z.1) ∧ ρ.find 18 = some (.slice z.2.2.1 (xs.length + 1 + A + B) z.2.2.2) ∧ m = [ro u0 fp z.1, nsl z.2.2.1 (xs.length + 1 + A + B) z.2.2.2 ((xs ++ [(⟨7, aop, af, ag, nn, ⟨none, 0, []⟩, []⟩ : NodM)]) ++ z.2.1)])
      (p2 := fun ρ m => ∃ bb : Nat, ρ.find 21 = some (.slice (some ⟨bb, 0, none⟩) 1 1) ∧ m = [frs u0 (blk bb 93 #[.iface T uu])]) (by decide +kernel) (by decide +kernel) (by decide +kernel) (by decide +kernel) (fun ρ ρ1 ρ2 m1 m2 c1 c2 h1 h2 => ?_) 7 6 1 _ _ _ _ _ _ [ro u0 fp G, nsl p xs.length c xs] [] rfl (fun _ _ => rfl) (fun _ _ => rfl) (fun _ _ h => h) (fun _ _ h => h) (by kernel_rfl) (by kernel_rfl) ?_ ?_
    · obtain ⟨z, a1, a2, rfl⟩ := h1
      obtain ⟨bb, b1, rfl⟩ := h2
      exact ⟨z, bb, a1, c1 _ _ a2, c2 _ _ b1, rfl⟩
    · refine Pr_seq (S1 := [3, 4, 5, 8]) (S2 := [9, 13]) (D0 := [0, 1, 2, 6, 7, 10, 11, 12, 14, 15]) (mid := fun ρ m => ∃ (q2 : Option Addr) (c2 bb : Nat), (ρ.find 10 = some (.slice q2 (xs.length + 1) c2) ∧ ρ.find 13 = some (.slice (some ⟨bb, 0, none⟩) 1 1) ∧ ρ.find 17 = some (.slice ep vs.length ec)) ∧ Ent m [ro u0 fp G, nsl q2 (xs.length + 1) c2 (xs ++ [(⟨7, aop, af, ag, nn, ⟨none, 0, []⟩, []⟩ : NodM)]), frs u0 (blk bb 93 #[.iface TL ul])]) (by decide +kernel) (f2 := 2) ?_ 4 [] _ _ (by simp) rfl ?_
      · rintro ρ m ⟨q2, c2, bb, ⟨f1, f2, f3⟩, hm⟩
        refine Pr_ent hm ?_
        refine Pr_cov (P := Tryz.prog) (fun ρ ρ' m hc hp => by obtain ⟨z, a1, a2, a3⟩ := hp; exact ⟨z, a1, hc _ _ a2, a3⟩) 2 _ _ [(10, .slice q2 (xs.length + 1) c2), (13, .slice (some ⟨bb, 0, none⟩) 1 1), (17, .slice ep vs.length ec)] _ (Cov.cons f1 rfl (Cov.cons f2 rfl (Cov.cons f3 rfl Cov.nil))) ?_
        have hlen : (xs ++ [(⟨7, aop, af, ag, nn, ⟨none, 0, []⟩, []⟩ : NodM)]).length = xs.length + 1 := by simp
        refine Pr_one 9 (by decide +kernel) ?_
        refine Stp_callRoF (ys := [Value.iface TL ul]) (enc := encV) (szz := 1) (nn := 1) (cp := 1) (qp := some ⟨bb, 0, none⟩) (ee := 93) (fun _ => rfl) (by decide) (m1 := [nsl q2 (xs.length + 1) c2 (xs ++ [(⟨7, aop, af, ag, nn, ⟨none, 0, []⟩, []⟩ : NodM)])]) (r := []) (G := G) rfl (Ent.cons .here (Ent.frsMap (.there .here) (fun w f h => blk_sl (n := 1) rfl rfl (by decide) w f h) (Ent.cons .here Ent.nil))) rfl rfl (X := Rd × List NodM × Option Addr × Nat) (V := fun z => .slice z.2.2.1 (xs.length + 1 + ([l].flatMap Ex.flat).length) z.2.2.2) (Gx := fun z => z.1) (M := fun z => [nsl z.2.2.1 (xs.length + 1 + ([l].flatMap Ex.flat).length) z.2.2.2 ((xs ++ [(⟨7, aop, af, ag, nn, ⟨none, 0, []⟩, []⟩ : NodM)]) ++ z.2.1)]) (I := fun z => z.2.1.map NodM.nod = [l].flatMap Ex.flat ∧ ∀ x ∈ z.2.1, NodG z.1 x) (fun G' hg' hrow W fp' hO hS => flat_allN [l] (only_one hl) q2 c2 _ (xs ++ [(⟨7, aop, af, ag, nn, ⟨none, 0, []⟩, []⟩ : NodM)]) hlen (some ⟨bb, 0, none⟩) 1 1 [.iface TL ul] rfl G' W fp' (Exs.of_rep_one (Ex.rep_mono hg'.1 hlr)) hrow (by rw [hA']; omega) hO hS) ?_
        rintro ⟨G1, ns, q, c'⟩ ⟨hns, hgn⟩ hg1
        dsimp only at hns hgn hg1 ⊢
        rw [hA']
        have hnl : ns.length = A := by rw [← hA', ← hns, List.length_map]
        have hlen2 : ((xs ++ [(⟨7, aop, af, ag, nn, ⟨none, 0, []⟩, []⟩ : NodM)]) ++ ns).length = xs.length + 1 + A := by simp only [List.length_append, List.length_cons, List.length_nil, hnl]
        refine Pr_one 13 (by decide +kernel) ?_
        refine Stp_callG (m1 := [nsl q (xs.length + 1 + A) c' ((xs ++ [(⟨7, aop, af, ag, nn, ⟨none, 0, []⟩, []⟩ : NodM)]) ++ ns)]) (r := []) rfl zent rfl rfl (X := Rd × List NodM × Option Addr × Nat) (V := fun z => .slice z.2.2.1 (xs.length + 1 + A + (es.flatMap Ex.flat).length) z.2.2.2) (Gx := fun z => z.1) (M := fun z => [nsl z.2.2.1 (xs.length + 1 + A + (es.flatMap Ex.flat).length) z.2.2.2 (((xs ++ [(⟨7, aop, af, ag, nn, ⟨none, 0, []⟩, []⟩ : NodM)]) ++ ns) ++ z.2.1)]) (I := fun z => z.2.1.map NodM.nod = es.flatMap Ex.flat ∧ ∀ x ∈ z.2.1, NodG z.1 x) (fun W fp' hO hS => flat_allN es hb q c' _ ((xs ++ [(⟨7, aop, af, ag, nn, ⟨none, 0, []⟩, []⟩ : NodM)]) ++ ns) hlen2 ep ec vs.length vs rfl G1 W fp' (Exs.rep_mono hg1.1 hbr) (hR.mono hg1.1) (by omega) hO hS) ?_
        rintro ⟨G2, n2, q3, c3⟩ ⟨hn2, hgn2⟩ hg2
        dsimp only at hn2 hgn2 hg2 ⊢
        refine Pr_end (by decide +kernel) ⟨(G2, ns ++ n2, q3, c3), ⟨by rw [List.map_append, hns, hn2]; simp, fun x hx => ?_, Rd.grow_tr hg1 hg2⟩, by rw [hB]; rfl, by rw [hB, ← List.append_assoc]; rfl⟩
        rcases List.mem_append.1 hx with hx | hx
        · exact (hgn x hx).mono hg2.1
        · exact hgn2 x hx
      · refine Pr_par (S1 := [3, 4, 5]) (S2 := [8]) (p1 := fun ρ m => ∃ (q2 : Option Addr) (c2 : Nat), (ρ.find 10 = some (.slice q2 (xs.length + 1) c2) ∧ ρ.find 17 = some (.slice ep vs.length ec)) ∧ Ent m [ro u0 fp G, nsl q2 (xs.length + 1) c2 (xs ++ [(⟨7, aop, af, ag, nn, ⟨none, 0, []⟩, []⟩ : NodM)])])
          (p2 := fun ρ m => ∃ bb : Nat, ρ.find 13 = some (.slice (some ⟨bb, 0, none⟩) 1 1) ∧ m = [frs u0 (blk bb 93 #[.iface TL ul])]) (by decide +kernel) (by decide +kernel) (by decide +kernel) (by decide +kernel) (fun ρ ρ1 ρ2 m1 m2 c1 c2 h1 h2 => ?_) 4 3 1 _ _ _ _ _ _ [ro u0 fp G, nsl p xs.length c xs] [] rfl (fun _ _ => rfl) (fun _ _ => rfl) (fun _ _ h => h) (fun _ _ h => h) (by kernel_rfl) (by kernel_rfl) ?_ ?_
        · obtain ⟨q2, cc, ⟨a1, a2⟩, a3⟩ := h1
          obtain ⟨bb, b1, rfl⟩ := h2
          exact ⟨q2, cc, bb, ⟨c1 _ _ a1, c2 _ _ b1, c1 _ _ a2⟩, Ent.appR a3⟩
        · refine Pr_one 3 (by decide +kernel) ?_
          refine Stp_callV rfl rfl rfl (fun w => fun_node aop af ag nn 7 (.slice ep vs.length ec) w) ?_
          refine Pr_one 4 (by decide +kernel) ?_
          refine Stp_bslice rfl rfl rfl rfl rfl rfl rfl fun b9 => ?_
          refine Pr_one 5 (by decide +kernel) ?_
          refine Stp_append rfl rfl rfl rfl zpk zpk rfl rfl (by omega) (by omega) rfl fun q2 c2 => ?_
          refine Pr_end (by decide +kernel) ⟨q2, c2, ⟨rfl, rfl⟩, ?_⟩
          unfold nsl
          rw [← nsl_snoc]
          exact zent
        · refine Pr_one 8 (by decide +kernel) ?_
          refine Stp_bsliceF rfl rfl rfl rfl rfl rfl rfl fun b9 => ?_
          exact Pr_end (by decide +kernel) ⟨b9, rfl, rfl⟩
    · refine Pr_one 16 (by decide +kernel) ?_
      refine Stp_bsliceF rfl rfl rfl rfl rfl rfl rfl fun b9 => ?_
      exact Pr_end (by decide +kernel) ⟨b9, rfl, rfl⟩
theorem Exs.rep_ifaces {G : Rd} : ∀ {b : Exs} {vs : List Value}, b.rep G vs → ∀ v ∈ vs, ∃ T u, v = .iface T u
  | .nil, vs, h => by
    have : vs = [] := h
    subst this; simp
  | .cons e r, vs, h => by
    obtain ⟨v, t, rfl, h1, h2⟩ := h
    intro x hx
    rcases List.mem_cons.1 hx with rfl | hx
    · exact Ex.rep_iface h1
    · exact Exs.rep_ifaces h2 x hx
set_option maxHeartbeats 8000000 in
set_option maxRecDepth 100000 in
theorem flat_pick (n : Nod) (o : Ex) (b : Exs) (ho : FlatC o) (hb : ∀ e ∈ b.list, FlatC e) (hn : n = ⟨8, 0, 0, 0, (b.len : Int), [], []⟩) (hpos : 0 < b.len) : FlatC (.pick n o b) := by
  intro G v hrep
  obtain ⟨ep, ec, vs, t, rfl, hR, hor, hbr⟩ := hrep
  refine ⟨177, _, 328, rfl, inferInstance, inferInstance, fun p c xs u0 fp hx hO hS => ?_⟩
  have hone : ∀ x ∈ vs, ∀ u ∈ encV x, u.oneCell' = true := fun x hx u hu => by
    obtain ⟨T, uu, rfl⟩ := Exs.rep_ifaces hbr x hx
    have : u = .iface T uu := by simpa [encV] using hu
    rw [this]; rfl
  have hvl := Exs.rep_len hbr
  rw [← hvl] at hn hpos
  subst hn
  obtain ⟨es, rfl⟩ : ∃ es, b = Exs.of es := ⟨b.list, (Exs.of_list' b).symm⟩
  rw [Exs.of_list] at hb
  obtain ⟨T, uu, rfl⟩ := Ex.rep_iface hor
  have hfl : (Ex.pick ⟨8, 0, 0, 0, (vs.length : Int), [], []⟩ o (Exs.of es)).flat = ⟨8, 0, 0, 0, (vs.length : Int), [], []⟩ :: (o :: es).flatMap Ex.flat := by rw [List.flatMap_cons, ← Exs.of_flat]; rfl
  rw [hfl] at hx ⊢
  simp only [List.length_cons] at hx
  clear hfl
  have hel : es.length ≤ (es.flatMap Ex.flat).length := by
    clear hb hbr hvl hx
    induction es with
    | nil => simp
    | cons e es ih => rw [List.flatMap_cons, List.length_append, List.length_cons]; have := e.flat_pos; omega
  have hvl2 : vs.length = es.length := by rw [hvl, Exs.of_len]
  have hcl : ((o :: es).flatMap Ex.flat).length = o.flat.length + (es.flatMap Ex.flat).length := by rw [List.flatMap_cons, List.length_append]
  have hv1000 : vs.length ≤ 1000 := by omega
  have hof := o.flat_pos
  refine enterR (args := [_, _]) hS hO Tryz.func328 rfl Tryz.ntmps328 (by simp) ?_
  clear hO
  (repeat' (first|refine zza ?_|refine zzb fun w hw => ?_|refine zzh fun _ => ?_|refine zzi fun _ _ => ?_|refine zzj (fun _ => ?_) fun _ => ?_))
  rename_i bx
  refine CW_ent (m' := [ro u0 fp G, nsl p xs.length c xs, blk bx 177 #[.iface T uu, .slice ep vs.length ec], ro u0 fp G]) (Ent.cons zpk (Ent.cons zpk (Ent.cons zpk (Ent.roSub hS Ent.nil)))) ?_
  refine CW_par 13 [0, 1, 2, 3, 4, 7, 8, 10, 11] [5, 6, 9, 12] [blk bx 177 #[.iface T uu, .slice ep vs.length ec], ro u0 fp G] (pm := [ro u0 fp G, nsl p xs.length c xs]) Ent.refl (by kernel_rfl) (by decide +kernel) ?_
  (refine WP_op rfl rfl rfl zyi ?_)
  (refine WP_op rfl rfl rfl zyi ?_)
  (refine WP_op rfl rfl rfl zyi ?_)
  (refine WP_op rfl rfl rfl zyi ?_)
  (refine WP_op rfl rfl rfl zyi ?_)
  (refine WP_op rfl rfl rfl zyi ?_)
  (refine WP_op rfl rfl rfl zyi ?_)
  (refine WP_op rfl rfl rfl zyi ?_)
  (refine WP_op rfl rfl rfl zyi ?_)
  refine WP_par (fun ρ m => ∃ (q2 : Option Addr) (c2 : Nat) (q3 : Option Addr) (c3 : Nat), (ρ.find 11 = some (.slice q2 (xs.length + 1) c2) ∧ ρ.find 17 = some (.slice q3 (1 + vs.length) c3)) ∧ Ent m [ro u0 fp G, nsl q2 (xs.length + 1) c2 (xs ++ [(⟨8, 0, 0, 0, (vs.length : Int), ⟨none, 0, []⟩, []⟩ : NodM)]), frs u0 (sl 93 1 q3 (1 + vs.length) c3 ((Value.iface T uu :: vs).flatMap encV))]) (m1 := [ro u0 fp G, nsl p xs.length c xs]) Ent.refl (by decide +kernel) ?_ ?_
  · rintro ρ m ⟨q, c', q3, c3, ⟨f14, f17⟩, hm⟩
    refine WL_cov (ρ' := [(11, .slice q (xs.length + 1) c'), (17, .slice q3 (1 + vs.length) c3)]) (Cov.cons f14 rfl (Cov.cons f17 rfl Cov.nil)) ?_
    refine WL_ent (m' := [ro u0 fp G, frs u0 (sl 93 1 q3 (1 + vs.length) c3 ((Value.iface T uu :: vs).flatMap encV)), nsl q (xs.length + 1) c' (xs ++ [(⟨8, 0, 0, 0, (vs.length : Int), ⟨none, 0, []⟩, []⟩ : NodM)])]) ?_ ?_
    · intro f w hf
      obtain ⟨f1, h1, h2⟩ := Ent.appR hm f w hf
      obtain ⟨f2, h3, h4⟩ := (show Ent ([ro u0 fp G, nsl q (xs.length + 1) c' (xs ++ [(⟨8, 0, 0, 0, (vs.length : Int), ⟨none, 0, []⟩, []⟩ : NodM)]), frs u0 (sl 93 1 q3 (1 + vs.length) c3 ((Value.iface T uu :: vs).flatMap encV))] ++ [blk bx 177 #[.iface T uu, .slice ep vs.length ec], ro u0 fp G]) [ro u0 fp G, frs u0 (sl 93 1 q3 (1 + vs.length) c3 ((Value.iface T uu :: vs).flatMap encV)), nsl q (xs.length + 1) c' (xs ++ [(⟨8, 0, 0, 0, (vs.length : Int), ⟨none, 0, []⟩, []⟩ : NodM)])] from zent) f1 w h1
      exact ⟨f2, h3, fun i hi => h2 i (h4 i hi)⟩
    refine WL_toRoF (fun _ => rfl) (by decide) fun G2 hg2 hrow => ?_
    have hlen : (xs ++ [(⟨8, 0, 0, 0, (vs.length : Int), ⟨none, 0, []⟩, []⟩ : NodM)]).length = xs.length + 1 := by simp
    refine WL_callG (m1 := [nsl q (xs.length + 1) c' (xs ++ [(⟨8, 0, 0, 0, (vs.length : Int), ⟨none, 0, []⟩, []⟩ : NodM)])]) (r := []) (X := Rd × List NodM × Option Addr × Nat) (V := fun z => .slice z.2.2.1 (xs.length + 1 + ((o :: es).flatMap Ex.flat).length) z.2.2.2) (Gx := fun z => z.1) (M := fun z => [nsl z.2.2.1 (xs.length + 1 + ((o :: es).flatMap Ex.flat).length) z.2.2.2 ((xs ++ [(⟨8, 0, 0, 0, (vs.length : Int), ⟨none, 0, []⟩, []⟩ : NodM)]) ++ z.2.1)]) (I := fun z => z.2.1.map NodM.nod = (o :: es).flatMap Ex.flat ∧ ∀ x ∈ z.2.1, NodG z.1 x) zent rfl rfl rfl (fun W fp' _ hO hS _ => flat_allN (o :: es) (fun e he => by
      rcases List.mem_cons.1 he with rfl | he
      · exact ho
      · exact hb e he) q c' _ (xs ++ [(⟨8, 0, 0, 0, (vs.length : Int), ⟨none, 0, []⟩, []⟩ : NodM)]) hlen q3 c3 (1 + vs.length) (.iface T uu :: vs) (by rw [List.length_cons]; omega) G2 W fp' ⟨_, _, rfl, Ex.rep_mono hg2.1 hor, Exs.rep_mono hg2.1 hbr⟩ hrow (by omega) hO hS) ?_
    rintro ⟨G3, n3, q4, c4⟩ ⟨hn3, hg3n⟩ hg3
    dsimp only at hn3 hg3n hg3 ⊢
    ((repeat' (first|refine zza ?_|refine zc9 ?_|refine zzb fun w hw => ?_|refine zzh fun _ => ?_|refine zzi fun _ _ => ?_|refine zzj (fun _ => ?_) fun _ => ?_)); (repeat' (refine CW_seq ?_; (repeat' (first|refine zza ?_|refine zc9 ?_|refine zzb fun w hw => ?_|refine zzh fun _ => ?_|refine zzi fun _ _ => ?_|refine zzj (fun _ => ?_) fun _ => ?_)))))
    have e3 : xs.length + 1 + ((o :: es).flatMap Ex.flat).length = xs.length + ((⟨8, 0, 0, 0, (vs.length : Int), [], []⟩ : Nod) :: (o :: es).flatMap Ex.flat).length := by rw [List.length_cons]; omega
    rw [e3] at hw ⊢
    refine ⟨(G3, (⟨8, 0, 0, 0, (vs.length : Int), ⟨none, 0, []⟩, []⟩ : NodM) :: n3, q4, c4), ⟨by rw [List.map_cons, hn3]; rfl, fun x hx => ?_⟩, rfl, Rd.grow_tr hg2 hg3, ?_⟩
    · rcases List.mem_cons.1 hx with rfl | hx
      · exact ⟨by simp, Row.nil _ _ _, by simp, by simp, by simp [I64], by unfold I64; dsimp only; omega, by simp [I64], by simp [I64], by simp [I64]⟩
      · exact hg3n x hx
    · dsimp only
      rw [show xs ++ (⟨8, 0, 0, 0, (vs.length : Int), ⟨none, 0, []⟩, []⟩ : NodM) :: n3 = (xs ++ [(⟨8, 0, 0, 0, (vs.length : Int), ⟨none, 0, []⟩, []⟩ : NodM)]) ++ n3 by simp]
      exact hw.ent zent
  · refine Pr_seq (S1 := [5, 6, 9]) (S2 := [12]) (D0 := [0, 1, 2, 3, 4, 7, 8, 10, 11]) (mid := fun ρ m => ∃ (q2 : Option Addr) (c2 bb : Nat), (ρ.find 11 = some (.slice q2 (xs.length + 1) c2) ∧ ρ.find 14 = some (.slice (some ⟨bb, 0, none⟩) 1 1) ∧ ρ.find 16 = some (.slice ep vs.length ec)) ∧ Ent m [ro u0 fp G, nsl q2 (xs.length + 1) c2 (xs ++ [(⟨8, 0, 0, 0, (vs.length : Int), ⟨none, 0, []⟩, []⟩ : NodM)]), frs u0 (blk bb 93 #[.iface T uu])]) (by decide +kernel) (f2 := 1) ?_ 3 [] _ _ (by simp) rfl ?_
    · rintro ρ m ⟨q2, c2, bb, ⟨f1, f2, f3⟩, hm⟩
      refine Pr_ent hm ?_
      refine Pr_cov (P := Tryz.prog) (fun ρ ρ' m hc hp => by obtain ⟨q2, c2, q3, c3, ⟨a1, a2⟩, a3⟩ := hp; exact ⟨q2, c2, q3, c3, ⟨hc _ _ a1, hc _ _ a2⟩, a3⟩) 1 _ _ [(11, .slice q2 (xs.length + 1) c2), (14, .slice (some ⟨bb, 0, none⟩) 1 1), (16, .slice ep vs.length ec)] _ (Cov.cons f1 rfl (Cov.cons f2 rfl (Cov.cons f3 rfl Cov.nil))) ?_
      refine Pr_one 12 (by decide +kernel) ?_
      refine Stp.ent (m' := [frs u0 (sl 93 1 (some ⟨bb, 0, none⟩) 1 1 [Value.iface T uu]), ro u0 fp G, nsl q2 (xs.length + 1) c2 (xs ++ [(⟨8, 0, 0, 0, (vs.length : Int), ⟨none, 0, []⟩, []⟩ : NodM)])]) (Ent.frsMap (.there (.there .here)) (fun w f h => blk_sl (n := 1) rfl rfl (by decide) w f h) (Ent.cons .here (Ent.cons .here Ent.nil))) ?_
      refine Stp_appendRowF (enc := encV) (sz := 1) (fun _ => rfl) (by decide) hone hR hpos (.there .here) rfl rfl rfl .here (by omega) (by omega) rfl fun q3 c3 => ?_
      exact Pr_end (by decide +kernel) ⟨q2, c2, q3, c3, ⟨rfl, rfl⟩, by rw [List.flatMap_cons]; exact zent⟩
    · refine Pr_par (S1 := [5, 6]) (S2 := [9]) (p1 := fun ρ m => ∃ (q2 : Option Addr) (c2 : Nat), (ρ.find 11 = some (.slice q2 (xs.length + 1) c2) ∧ ρ.find 16 = some (.slice ep vs.length ec)) ∧ Ent m [ro u0 fp G, nsl q2 (xs.length + 1) c2 (xs ++ [(⟨8, 0, 0, 0, (vs.length : Int), ⟨none, 0, []⟩, []⟩ : NodM)])])
        (p2 := fun ρ m => ∃ bb : Nat, ρ.find 14 = some (.slice (some ⟨bb, 0, none⟩) 1 1) ∧ m = [frs u0 (blk bb 93 #[.iface T uu])]) (by decide +kernel) (by decide +kernel) (by decide +kernel) (by decide +kernel) (fun ρ ρ1 ρ2 m1 m2 c1 c2 h1 h2 => ?_) 3 2 1 _ _ _ _ _ _ [ro u0 fp G, nsl p xs.length c xs] [] rfl (fun _ _ => rfl) (fun _ _ => rfl) (fun _ _ h => h) (fun _ _ h => h) (by kernel_rfl) (by kernel_rfl) ?_ ?_
      · obtain ⟨q2, cc, ⟨a1, a2⟩, a3⟩ := h1
        obtain ⟨bb, b1, rfl⟩ := h2
        exact ⟨q2, cc, bb, ⟨c1 _ _ a1, c2 _ _ b1, c1 _ _ a2⟩, Ent.appR a3⟩
      · refine Pr_one 5 (by decide +kernel) ?_
        refine Stp_bslice rfl rfl rfl rfl rfl rfl rfl fun b9 => ?_
        refine Pr_one 6 (by decide +kernel) ?_
        refine Stp_append rfl rfl rfl rfl zpk zpk rfl rfl (by omega) (by omega) rfl fun q2 c2 => ?_
        refine Pr_end (by decide +kernel) ⟨q2, c2, ⟨rfl, rfl⟩, ?_⟩
        unfold nsl
        rw [← nsl_snoc]
        exact zent
      · refine Pr_one 9 (by decide +kernel) ?_
        refine Stp_bsliceF rfl rfl rfl rfl rfl rfl rfl fun b9 => ?_
        exact Pr_end (by decide +kernel) ⟨b9, rfl, rfl⟩
end Go.Proofs.YtngeooflfkpikaaGreatDoor
namespace Go.Proofs.YtngeooflfkpikaaGreatDoor
open Go.RowKit
theorem flat_leaf (n : Nod) (h : (Ex.leaf n).can) : FlatC (.leaf n) := by
  intro G v hrep
  rcases h with ⟨h1, h2, h3, h4, h5⟩ | ⟨h1, h2, h3⟩ | ⟨h1, h2⟩
  · rcases hrep with ⟨_, ip, ic, rfl, hI⟩ | ⟨k, _⟩ | ⟨k, _⟩ | ⟨k, _⟩
    · refine ⟨_, _, 322, rfl, inferInstance, inferInstance, fun p c xs w fp hx hO hS => ?_⟩
      have := flat_nums p c xs ip ic n.nums G w fp hI h3 h4 (by omega) h5 hO hS
      rw [← h2] at this
      exact this
    all_goals (exfalso; rw [h1] at k; omega)
  · obtain ⟨op, aop, af, ag, nn, nums, text⟩ := n
    dsimp only at h1 h2 h3 hrep
    simp only [Nod.mk.injEq, true_and, and_true] at h2
    obtain ⟨rfl, rfl, rfl, rfl, rfl⟩ := h2
    rcases h1 with rfl | rfl
    · rcases hrep with ⟨k, _⟩ | ⟨_, rfl⟩ | ⟨k, _⟩ | ⟨k, _⟩
      · dsimp only at k; omega
      · exact ⟨_, _, 323, rfl, inferInstance, inferInstance, fun p c xs w fp hx hO hS => flat_text p c xs text G w fp h3 (by omega) hO hS⟩
      · dsimp only at k; omega
      · dsimp only at k; omega
    · rcases hrep with ⟨k, _⟩ | ⟨k, _⟩ | ⟨_, rfl⟩ | ⟨k, _⟩
      · dsimp only at k; omega
      · dsimp only at k; omega
      · exact ⟨_, _, 319, rfl, inferInstance, inferInstance, fun p c xs w fp hx hO hS => flat_name p c xs text G w fp h3 (by omega) hO hS⟩
      · dsimp only at k; omega
  · obtain ⟨op, aop, af, ag, nn, nums, text⟩ := n
    dsimp only at h1 h2 hrep
    simp only [Nod.mk.injEq, true_and] at h2
    obtain ⟨rfl, rfl, rfl, rfl, rfl, rfl⟩ := h2
    rcases hrep with ⟨k, _⟩ | ⟨k, _⟩ | ⟨k, _⟩ | ⟨_, rfl⟩
    · dsimp only at k; omega
    · dsimp only at k; omega
    · dsimp only at k; omega
    · exact ⟨_, _, 324, rfl, inferInstance, inferInstance, fun p c xs w fp hx hO hS => flat_arg p c xs op G w fp (by unfold I64; omega) (by omega) hO hS⟩
mutual
theorem flat_ex : ∀ e : Ex, e.can → FlatC e
  | .leaf n, h => flat_leaf n h
  | .one n b r, h => flat_one n b r (flat_exs b h.2.1) (flat_ex r h.2.2) h.1
  | .two n l b r, h => flat_two n l b r (flat_ex l h.2.1) (flat_exs b h.2.2.1) (flat_ex r h.2.2.2) h.1
  | .pick n o b, h => flat_pick n o b (flat_ex o h.2.1) (flat_exs b h.2.2) h.1.1 h.1.2
theorem flat_exs : ∀ b : Exs, b.can → ∀ e ∈ b.list, FlatC e
  | .nil, _ => by simp [Exs.list]
  | .cons e r, h => fun x hx => (List.mem_cons.1 hx).elim (fun k => k ▸ flat_ex e h.1) (fun k => flat_exs r h.2 x k)
end
set_option maxHeartbeats 8000000 in
set_option maxRecDepth 100000 in
theorem flat_set (r : Ex) (hr : FlatC r) (text : List UInt8) (ht : text.length ≤ 4294967280) (T : TypeId) (uu : Value) (p : Option Addr) (c : Nat) (xs : List NodM) (G : Rd) (u0 : World) (fp : List Nat) (hrr : r.rep G (.iface T uu)) (hx : xs.length + (1 + r.flat.length) ≤ 1000) (hO : Own [nsl p xs.length c xs] fp u0) (hS : Rd.sub G fp u0) :
    Calls Tryz.prog 320 #[.agg #[.string ⟨text.toArray⟩, .iface T uu], .slice p xs.length c] u0 (FlGot xs (⟨9, 0, 0, 0, 0, [], text⟩ :: r.flat) G u0 fp) := by
  refine enterR (args := [_, _]) hS hO Tryz.func320 rfl Tryz.ntmps320 (by simp) ?_
  clear hO
  (repeat' (first|refine zza ?_|refine zzb fun w hw => ?_|refine zzh fun _ => ?_|refine zzi fun _ _ => ?_|refine zzj (fun _ => ?_) fun _ => ?_))
  rename_i bx
  refine CW_ent (m' := [ro u0 fp G, nsl p xs.length c xs, blk bx 148 #[.string ⟨text.toArray⟩, .iface T uu], ro u0 fp G]) (Ent.cons zpk (Ent.cons zpk (Ent.cons zpk (Ent.roSub hS Ent.nil)))) ?_
  refine CW_par 10 [0, 1, 2, 3, 4, 7, 8] [5, 6, 9] [blk bx 148 #[.string ⟨text.toArray⟩, .iface T uu], ro u0 fp G] (pm := [ro u0 fp G, nsl p xs.length c xs]) Ent.refl (by kernel_rfl) (by decide +kernel) ?_
  (refine WP_op rfl rfl rfl zyi ?_)
  (refine WP_op rfl rfl rfl zyi ?_)
  (refine WP_op rfl rfl rfl zyi ?_)
  (refine WP_op rfl rfl rfl zyi ?_)
  (refine WP_op rfl rfl rfl zyi ?_)
  (refine WP_op rfl rfl rfl zyi ?_)
  (refine WP_op rfl rfl rfl zyi ?_)
  refine WP_par (fun ρ m => ∃ (q2 : Option Addr) (c2 bb : Nat), (ρ.find 11 = some (.slice q2 (xs.length + 1) c2) ∧ ρ.find 14 = some (.slice (some ⟨bb, 0, none⟩) 1 1)) ∧ Ent m [ro u0 fp G, nsl q2 (xs.length + 1) c2 (xs ++ [(⟨9, 0, 0, 0, 0, ⟨none, 0, []⟩, text⟩ : NodM)]), frs u0 (blk bb 93 #[.iface T uu])]) (m1 := [ro u0 fp G, nsl p xs.length c xs]) Ent.refl (by decide +kernel) ?_ ?_
  · rintro ρ m ⟨q, c', bb, ⟨f14, f17⟩, hm⟩
    refine WL_cov (ρ' := [(11, .slice q (xs.length + 1) c'), (14, .slice (some ⟨bb, 0, none⟩) 1 1)]) (Cov.cons f14 rfl (Cov.cons f17 rfl Cov.nil)) ?_
    refine WL_ent (m' := [ro u0 fp G, frs u0 (sl 93 1 (some ⟨bb, 0, none⟩) 1 1 ([Value.iface T uu].flatMap encV)), nsl q (xs.length + 1) c' (xs ++ [(⟨9, 0, 0, 0, 0, ⟨none, 0, []⟩, text⟩ : NodM)])]) ?_ ?_
    · intro f w hf
      obtain ⟨f1, h1, h2⟩ := Ent.appR hm f w hf
      obtain ⟨f2, h3, h4⟩ := (show Ent ([ro u0 fp G, nsl q (xs.length + 1) c' (xs ++ [(⟨9, 0, 0, 0, 0, ⟨none, 0, []⟩, text⟩ : NodM)]), frs u0 (blk bb 93 #[.iface T uu])] ++ [blk bx 148 #[.string ⟨text.toArray⟩, .iface T uu], ro u0 fp G]) [ro u0 fp G, frs u0 (sl 93 1 (some ⟨bb, 0, none⟩) 1 1 ([Value.iface T uu].flatMap encV)), nsl q (xs.length + 1) c' (xs ++ [(⟨9, 0, 0, 0, 0, ⟨none, 0, []⟩, text⟩ : NodM)])] from Ent.cons .here (Ent.frsMap (.there .here) (fun w f h => blk_sl (n := 1) rfl rfl (by decide) w f h) (Ent.cons .here Ent.nil))) f1 w h1
      exact ⟨f2, h3, fun i hi => h2 i (h4 i hi)⟩
    refine WL_toRoF (fun _ => rfl) (by decide) fun G2 hg2 hrow => ?_
    have hlen : (xs ++ [(⟨9, 0, 0, 0, 0, ⟨none, 0, []⟩, text⟩ : NodM)]).length = xs.length + 1 := by simp
    have hR' : ([r].flatMap Ex.flat).length = r.flat.length := by simp
    refine WL_callG (m1 := [nsl q (xs.length + 1) c' (xs ++ [(⟨9, 0, 0, 0, 0, ⟨none, 0, []⟩, text⟩ : NodM)])]) (r := []) (X := Rd × List NodM × Option Addr × Nat) (V := fun z => .slice z.2.2.1 (xs.length + 1 + ([r].flatMap Ex.flat).length) z.2.2.2) (Gx := fun z => z.1) (M := fun z => [nsl z.2.2.1 (xs.length + 1 + ([r].flatMap Ex.flat).length) z.2.2.2 ((xs ++ [(⟨9, 0, 0, 0, 0, ⟨none, 0, []⟩, text⟩ : NodM)]) ++ z.2.1)]) (I := fun z => z.2.1.map NodM.nod = [r].flatMap Ex.flat ∧ ∀ x ∈ z.2.1, NodG z.1 x) zent rfl rfl rfl (fun W fp' _ hO hS _ => flat_allN [r] (only_one hr) q c' _ (xs ++ [(⟨9, 0, 0, 0, 0, ⟨none, 0, []⟩, text⟩ : NodM)]) hlen (some ⟨bb, 0, none⟩) 1 1 [.iface T uu] rfl G2 W fp' (Exs.of_rep_one (Ex.rep_mono hg2.1 hrr)) hrow (by rw [hR']; omega) hO hS) ?_
    rintro ⟨G3, n3, q3, c3⟩ ⟨hn3, hg3n⟩ hg3
    dsimp only at hn3 hg3n hg3 ⊢
    ((repeat' (first|refine zza ?_|refine zc9 ?_|refine zzb fun w hw => ?_|refine zzh fun _ => ?_|refine zzi fun _ _ => ?_|refine zzj (fun _ => ?_) fun _ => ?_)); (repeat' (refine CW_seq ?_; (repeat' (first|refine zza ?_|refine zc9 ?_|refine zzb fun w hw => ?_|refine zzh fun _ => ?_|refine zzi fun _ _ => ?_|refine zzj (fun _ => ?_) fun _ => ?_)))))
    have e2 : [r].flatMap Ex.flat = r.flat := by simp
    rw [e2] at hn3 hw ⊢
    have e3 : xs.length + 1 + r.flat.length = xs.length + ((⟨9, 0, 0, 0, 0, [], text⟩ : Nod) :: r.flat).length := by simp only [List.length_cons]; omega
    rw [e3] at hw ⊢
    refine ⟨(G3, (⟨9, 0, 0, 0, 0, ⟨none, 0, []⟩, text⟩ : NodM) :: n3, q3, c3), ⟨by rw [List.map_cons, hn3]; rfl, fun x hx => ?_⟩, rfl, Rd.grow_tr hg2 hg3, ?_⟩
    · rcases List.mem_cons.1 hx with rfl | hx
      · exact NodG.leaf (by simp [I64]) ht
      · exact hg3n x hx
    · dsimp only
      rw [show xs ++ (⟨9, 0, 0, 0, 0, ⟨none, 0, []⟩, text⟩ : NodM) :: n3 = (xs ++ [(⟨9, 0, 0, 0, 0, ⟨none, 0, []⟩, text⟩ : NodM)]) ++ n3 by simp]
      exact hw.ent zent
  · refine Pr_par (S1 := [5, 6]) (S2 := [9]) (p1 := fun ρ m => ∃ (q2 : Option Addr) (c2 : Nat), ρ.find 11 = some (.slice q2 (xs.length + 1) c2) ∧ Ent m [ro u0 fp G, nsl q2 (xs.length + 1) c2 (xs ++ [(⟨9, 0, 0, 0, 0, ⟨none, 0, []⟩, text⟩ : NodM)])])
      (p2 := fun ρ m => ∃ bb : Nat, ρ.find 14 = some (.slice (some ⟨bb, 0, none⟩) 1 1) ∧ m = [frs u0 (blk bb 93 #[.iface T uu])]) (by decide +kernel) (by decide +kernel) (by decide +kernel) (by decide +kernel) (fun ρ ρ1 ρ2 m1 m2 c1 c2 h1 h2 => ?_) 3 2 1 _ _ _ _ _ _ [ro u0 fp G, nsl p xs.length c xs] [] rfl (fun _ _ => rfl) (fun _ _ => rfl) (fun _ _ h => h) (fun _ _ h => h) (by kernel_rfl) (by kernel_rfl) ?_ ?_
    · obtain ⟨q2, cc, a1, a3⟩ := h1
      obtain ⟨bb, b1, rfl⟩ := h2
      exact ⟨q2, cc, bb, ⟨c1 _ _ a1, c2 _ _ b1⟩, Ent.appR a3⟩
    · refine Pr_one 5 (by decide +kernel) ?_
      refine Stp_bslice rfl rfl rfl rfl rfl rfl rfl fun b9 => ?_
      refine Pr_one 6 (by decide +kernel) ?_
      refine Stp_append rfl rfl rfl rfl zpk zpk rfl rfl (by omega) (by omega) rfl fun q2 c2 => ?_
      refine Pr_end (by decide +kernel) ⟨q2, c2, rfl, ?_⟩
      unfold nsl
      rw [← nsl_snoc]
      exact zent
    · refine Pr_one 9 (by decide +kernel) ?_
      refine Stp_bsliceF rfl rfl rfl rfl rfl rfl rfl fun b9 => ?_
      exact Pr_end (by decide +kernel) ⟨b9, rfl, rfl⟩
end Go.Proofs.YtngeooflfkpikaaGreatDoor
