/-
  code: the code of a function that waited.
-/
import Derived.Test.YtdmapiaejcnibaaDoorGo
import Derived.Test.YtdmapiaejcnibaaDoorCode7
namespace Go.Proofs.YtdmapiaejcnibaaDoor
open Go.RowKit

def setD (t : Int) (y : InsM) : InsM := { y with dst := t }
theorem insE_len (y : InsM) : (insE y).length = 8 := rfl
theorem ins_set (t : Int) : ∀ (xs : List InsM) (i : Nat), i < xs.length → (xs.flatMap insE).set (i * 8 + 5) (.int .i64 t) = (xs.modify i (setD t)).flatMap insE
  | [], _, h => by simp at h
  | y :: r, 0, _ => by
    rw [List.modify_zero_cons, List.flatMap_cons, List.flatMap_cons]
    rw [List.set_append_left _ _ (by rw [insE_len]; omega)]
    rfl
  | y :: r, i + 1, h => by
    rw [List.modify_succ_cons, List.flatMap_cons, List.flatMap_cons, List.set_append_right _ _ (by rw [insE_len]; omega), insE_len, show (i + 1) * 8 + 5 - 8 = i * 8 + 5 by omega, ins_set t r i (by simpa using h)]
theorem ins_patch (t : Int) (xs : List InsM) (i : Nat) : (xs.modify i (setD t)).map InsM.ins = patch (xs.map InsM.ins) i t := by
  unfold patch
  apply List.ext_getElem?
  intro j
  simp only [List.getElem?_map, List.getElem?_modify, Option.map_eq_map]
  cases xs[j]? with
  | none => rfl
  | some y => by_cases h : i = j <;> simp [h] <;> rfl
theorem insG_modify {G : Rd} {xs : List InsM} {i : Nat} {t : Int} (h : ∀ x ∈ xs, InsG G x) : ∀ x ∈ xs.modify i (setD t), InsG G x := fun x hx => by
  obtain ⟨j, hj⟩ := List.mem_iff_getElem?.1 hx
  rw [List.getElem?_modify] at hj
  cases hy : xs[j]? with
  | none => rw [hy] at hj; simp at hj
  | some y =>
    rw [hy] at hj
    have hg := h y (List.mem_of_getElem? hy)
    simp only [Option.map_eq_map, Option.map_some, Option.some.injEq] at hj
    by_cases hij : i = j
    · rw [if_pos hij] at hj; subst hj; exact ⟨hg.text, hg.nums, hg.numsL⟩
    · rw [if_neg hij] at hj; subst hj; exact hg
theorem modify_mid {α : Type} (A B : List α) (x : α) (f : α → α) : (A ++ x :: B).modify A.length f = A ++ f x :: B := by
  induction A with
  | nil => rfl
  | cons a A ih => rw [List.cons_append, List.length_cons, List.modify_succ_cons, ih]; rfl
/-- `s[2:]` of a slice of ints that is longer -/
theorem y_lo2 {P : Program} {K : Cx} {ρ : Env} {m : List HP} {dst : Option Nat} {ty t e : TypeId} {pos : String} {aft : Array Edge} {g : Option (Nat × Bool)} {x y : Operand} {a : Addr} {n c : Nat} [S : SlT P t e 1] {k : IntKind} (hx : opv ρ x = some (.slice (some a) n c)) (hy : opv ρ y = some (.int k 2)) (hn : 3 ≤ n) (hc : n ≤ c) :
    Yi P K ρ m ⟨dst, .slice t x (some y) none none, ty, pos, aft, g⟩ (.slice (some (a.add 2)) (n - 2) (c - 2)) := ⟨fun A w hf _ => by
  have he : P.elem t = e := by simp [Program.elem, S.und]
  have ht' : P.underlying t = some (.slice (P.elem t)) := by rw [he]; exact S.und
  have h4 : (Instr.sliceAt t (.slice (some a) n c) (some (.int k 2)) none none).run P w = .ok (.slice (some (a.add 2)) (n - 2) (c - 2)) w := by
    rw [run_sliceAt_slice (w := w) t _ _ _ _ ht', run_slice_l (w := w) t (some a) n c ht' k 2 (by omega) (by omega), he, S.size w]
    simp [Result.andThen, sliced]
    omega
  simp only [execOp, Option.map_some, Option.map_none, hf.eval hx, hf.eval hy]
  simp [h4]⟩
theorem Row.drop2 {G : Rd} {a : Addr} {c : Nat} {xs : List Int} (h : Row encI 1 G (some a) c xs) (hn : 3 ≤ xs.length) : Row encI 1 G (some (a.add 2)) (c - 2) (xs.drop 2) := ⟨by have := h.le; simp; omega, by have := h.max; omega, fun _ => rfl, fun i x hx j v hv => by
  rw [List.getElem?_drop] at hx
  have := h.cell (2 + i) x hx j v hv
  rw [← this]
  congr 2
  unfold addrAt
  show (a.add 2).add (i * 1) = a.add ((2 + i) * 1)
  rw [Go.Deep.add_add]
  congr 1; omega⟩
theorem sl_some {w0 w : World} {F : List Nat} {m r : List HP} {e : TypeId} {sz n c : Nat} {p : Option Addr} {xs : List Value} (hh : Holds w0 F m w) (hp : Pick m (sl e sz p n c xs) r) (h : 0 < n) : ∃ g, p = some ⟨g, 0, none⟩ := by
  rcases (hh.slR hp).2 with ⟨hv, h0⟩ | ⟨g, cap, cur, hv, _⟩
  · omega
  · simp only [Value.slice.injEq] at hv; exact ⟨g, hv.1⟩
/-- an own slice of ints is only read from here on -/
theorem WL_toRo {P : Program} {K : Cx} {ρ : Env} {m r : List HP} {ops : Array Oper} {Q : Exit → Act → World → Prop} {rest : List Oper} {G : Rd} {e : TypeId} {n c : Nat} {p : Option Addr} {xs : List Int} (he : Ent m (ro K.w0 K.F G :: sl e 1 p n c (xs.map (Value.int .i64)) :: r)) (hF : ∀ fp w, Own r fp w → ∀ i ∈ K.F, i ∈ fp)
    (k : ∀ G', Rd.grow K.w0 G G' → Row encI 1 G' p c xs → WL P K ops Q rest ρ (ro K.w0 K.F G' :: r)) : WL P K ops Q rest ρ m := ⟨fun a w hf hm => by
  rw [← flat_ints] at he
  obtain ⟨G', g1, g2, g3⟩ := Holds.toRo (α := Int) (enc := encI) (sz := 1) (fun _ => rfl) (by decide) (hm.ent he) (fun f hf => hF f w hf)
  exact (k G' g1 g2).run a w hf g3⟩
/-- what the making of a function's code tells -/
def GotF (b : Nat) (p : Option Addr) (c : Nat) (L : List NodM) (bb : Exs) (k call : Nat) (xs : List InsM) (ws : List Wt) (G : Rd) (w : World) (fp : List Nat) (en : Ending) (w' : World) : Prop :=
  ∃ z : Rd × List InsM × (Option Addr × Nat) × (Option Addr × Nat), (z.2.1.map InsM.ins = patch (xs.map InsM.ins) call (xs.length : Int) ++ bb.func (xs.length : Int) xs.length ∧ ∀ x ∈ z.2.1, InsG z.1 x) ∧ en = .returned (.tuple #[]) ∧ Rd.grow w G z.1 ∧
    Holds w fp (ro w fp z.1 :: mkS b p L.length c (xs.length : Int) z.2.2.1 z.2.1 z.2.2.2 (ws ++ bb.funcW xs.length k)) w'
set_option maxHeartbeats 8000000 in
set_option maxRecDepth 100000 in
theorem code_function (p : Option Addr) (c : Nat) (L : List NodM) (h400 : L.length ≤ 400) (bb : Exs) (k d b call N : Nat) (rest : List Nod) (h : Int) (o q : Option Addr × Nat) (xs : List InsM) (ws : List Wt) (G : Rd) (w : World) (fp : List Nat)
    (hok : bb.ok d) (hlen : bb.len = 2 * N + 1) (hL : (L.drop k).map NodM.nod = bb.flat ++ rest) (hcl : call < xs.length) (hR : Row nodE 7 G p c L) (hB : ∀ x ∈ L, NodG G x) (hX : ∀ x ∈ xs, InsG G x) (hO : Own (mkS b p L.length c h o xs q ws) fp w) (hS : Rd.sub G fp w) (hxs : xs.length ≤ 400000) (hws : ws.length ≤ 400000) :
    Calls Tryd.prog 23 #[.pointer (some ⟨b, 0, none⟩), .agg #[.int .i64 (k : Int), .int .i64 (N : Int), .int .i64 (call : Int)]] w (GotF b p c L bb k call xs ws G w fp) := by
  have hn : ∀ x ∈ L, I64 x.n := fun x hx => (hB x hx).n
  have hfl := bb.flat_len
  have hle := nodsLe hL (by omega)
  refine enterR (G := G) (args := [_, _]) hS hO Tryd.func23 rfl Tryd.ntmps23 (by simp) ?_
  have hfp := (own_mkS hO).1
  clear hS hO
  (repeat' (first|refine zza ?_|refine zzb fun w hw => ?_|refine zzh fun _ => ?_|refine zzi fun _ _ => ?_|refine zzj (fun _ => ?_) fun _ => ?_))
  rename_i bw
  refine CW_ent (m' := [mkr b p L.length c (o.1, xs.length, o.2) (q.1, ws.length, q.2) (xs.length : Int), blk bw 70 #[.int .i64 (k : Int), .int .i64 (N : Int), .int .i64 (call : Int)], ro w fp G, outS (o.1, xs.length, o.2) xs, queS q ws]) (Ent.consK (k := Ent.refl) .here) ?_
  refine CW_perm 12 [0, 1, 2, 3, 4, 5, 6, 7, 8, 9, 10, 11] [mkr b p L.length c (o.1, xs.length, o.2) (q.1, ws.length, q.2) (xs.length : Int), blk bw 70 #[.int .i64 (k : Int), .int .i64 (N : Int), .int .i64 (call : Int)], ro w fp G, outS (o.1, xs.length, o.2) xs, queS q ws] [] Cov.nil (pm := []) zent (by kernel_rfl) (by decide +kernel) (by kernel_rfl) ?_
  (refine WP_op rfl rfl rfl zyi ?_)
  (refine WP_op rfl rfl rfl zyi ?_)
  (refine WP_op rfl rfl rfl zyi ?_)
  (refine WP_op rfl rfl rfl zyi ?_)
  (refine WP_op rfl rfl rfl zyi ?_)
  (refine WP_op rfl rfl rfl zyi ?_)
  (refine WP_op rfl rfl rfl zyi ?_)
  (refine WP_op rfl rfl rfl zyi ?_)
  (refine WP_op rfl rfl rfl zyi ?_)
  (refine WP_op rfl rfl rfl zyi ?_)
  refine WP_op rfl rfl rfl (y_ixo rfl rfl (.there (.there (.there .here))) hcl) ?_
  (refine WP_op rfl rfl rfl zyi ?_)
  refine WP_end ?_
  refine WL_storeF (i := call) (j := 5) rfl rfl rfl (.there (.there (.there .here))) (show call * 8 + 5 < xs.length * 8 by omega) rfl rfl ?_
  rw [ins_set (xs.length : Int) xs call hcl]
  obtain ⟨x1, hx1⟩ : ∃ x1, x1 = xs.modify call (setD (xs.length : Int)) := ⟨_, rfl⟩
  have hx1l : x1.length = xs.length := by rw [hx1, List.length_modify]
  have hx1G : ∀ x ∈ x1, InsG G x := by rw [hx1]; exact insG_modify hX
  have hx1m : x1.map InsM.ins = patch (xs.map InsM.ins) call (xs.length : Int) := by rw [hx1, ins_patch]
  have hS2 : (2 : Int) * (N : Int) + 1 = (bb.list.length : Int) := by rw [Exs.list_len, hlen]; omega
  rw [← hx1, ← hx1l]
  (repeat' (first|refine zza ?_|refine zc9 ?_|refine zzb fun w hw => ?_|refine zzh fun _ => ?_|refine zzi fun _ _ => ?_|refine zv1 ?_|refine zv2 ?_|refine zzj (fun _ => ?_) fun _ => ?_))
  rw [hS2]
  (apply WL_callX; rfl; rfl; rfl; (intro W hW; exact code_parts p c L h400 hn bb.list k b rest W (fun s hs => ⟨d, Exs.list_ok bb d hok s hs⟩) (by rw [Exs.list_flat]; exact hL) (cell_blk hW (.there .here) rfl) (hR.mono (hW.le (.there (.there (.there .here)))))); intro _ _)
  rename_i zp _
  obtain ⟨H, hH⟩ : ∃ H : Int, H = (x1.length : Int) := ⟨_, rfl⟩
  rw [← hH]
  refine WL_toRo (r := [mkr b p L.length c (o.1, x1.length, o.2) (q.1, ws.length, q.2) H, outS (o.1, x1.length, o.2) x1, queS q ws, blk bw 70 #[.int .i64 (k : Int), .int .i64 (N : Int), .int .i64 (call : Int)]]) (G := G) zent ?_ fun G1 hg1 hrow1 => ?_
  · rintro f W ⟨f1, f2, rfl, h1, ⟨f3, f4, rfl, h3, ⟨f5, f6, rfl, h5, _⟩, _⟩, _⟩ i hi
    have e1 : f1 = [b] := h1.1
    have e3 : f3 = blkOf o.1 := h3.1
    have e5 : f5 = blkOf q.1 := h5.1
    subst e1 e3 e5
    rw [hfp] at hi
    simp only [List.mem_append, List.not_mem_nil, or_false] at hi ⊢
    rcases hi with hi | hi | hi
    · exact .inl hi
    · exact .inr (.inl hi)
    · exact .inr (.inr (.inl hi))
  obtain ⟨a0, ha0⟩ : ∃ a0, zp.1 = some a0 := Option.isSome_iff_exists.1 (hrow1.some' (by intro e0; have := congrArg List.length e0; rw [posI_len, Exs.list_len] at this; simp at this; omega))
  rw [ha0] at hrow1 ⊢
  rw [Exs.list_len]
  obtain ⟨C, hC⟩ : ∃ C, C = x1.map InsM.ins ++ bb.func H x1.length := ⟨_, rfl⟩
  obtain ⟨WQ, hWQ⟩ : ∃ WQ, WQ = ws ++ bb.funcW x1.length k := ⟨_, rfl⟩
  have hbl : 2 * bb.flat.length ≤ 800 := by omega
  have hodd : bb.len % 2 = 1 := by omega
  (repeat' (first|refine zza ?_|refine zc9 ?_|refine zzb fun w hw => ?_|refine zzh fun _ => ?_|refine zzi fun _ _ => ?_))
  refine CW_loopK (X := Rd × List InsM × (Option Addr × Nat) × (Option Addr × Nat) × Exs × Nat × Addr × Nat × List Wt) [(0,_),(3,_)] zcov (fun x => [(4, .slice (some x.2.2.2.2.2.2.1) x.2.2.2.2.1.len x.2.2.2.2.2.2.2.1)]) (fun x => [ro w fp x.1, mkr b p L.length c (x.2.2.1.1, x.2.1.length, x.2.2.1.2) (x.2.2.2.1.1, x.2.2.2.2.2.2.2.2.length, x.2.2.2.1.2) H, outS (x.2.2.1.1, x.2.1.length, x.2.2.1.2) x.2.1, queS x.2.2.2.1 x.2.2.2.2.2.2.2.2, blk bw 70 #[.int .i64 (k : Int), .int .i64 (N : Int), .int .i64 (call : Int)]])
    (fun x => x.2.2.2.2.1.ok d ∧ x.2.2.2.2.1.len % 2 = 1 ∧ Row encI 1 x.1 (some x.2.2.2.2.2.2.1) x.2.2.2.2.2.2.2.1 (posI x.2.2.2.2.2.1 x.2.2.2.2.1.list) ∧ (L.drop x.2.2.2.2.2.1).map NodM.nod = x.2.2.2.2.1.flat ++ rest ∧ x.2.1.map InsM.ins ++ x.2.2.2.2.1.func H x.2.1.length = C ∧ x.2.2.2.2.2.2.2.2 ++ x.2.2.2.2.1.funcW x.2.1.length x.2.2.2.2.2.1 = WQ ∧ (∀ y ∈ x.2.1, InsG x.1 y) ∧ Rd.grow w G x.1 ∧ x.2.1.length + 2 * x.2.2.2.2.1.flat.length ≤ 401000 ∧ x.2.2.2.2.2.2.2.2.length + x.2.2.2.2.1.flat.length ≤ 401000) (fun x => x.2.2.2.2.1.len) (G1, x1, o, q, bb, k, a0, zp.2, ws) ⟨hok, hodd, hrow1, hL, hC.symm, hWQ.symm, fun y hy => (hx1G y hy).mono hg1.1, hg1, by dsimp only; omega, by dsimp only; omega⟩ zcov zent ?_
  rintro ⟨Gi, zs, oi, qi, rb, kp, a, cap, wq⟩ ⟨hiok, hiodd, hirow, hiL, hiC, hiW, hiG, higr, hib1, hib2⟩
  dsimp only at hiok hiodd hirow hiL hiC hiW hiG higr hib1 hib2 ⊢
  have hsz : ∀ y : Exs, y.len ≤ 400 → ((y.len : Nat) : Int) ≤ 400 := fun y hy => by omega
  have hrl := rb.flat_len
  match rb, hiok, hiodd, hirow, hiL, hiC, hiW, hib1, hib2, hrl with
  | .nil, _, hiodd, _, _, _, _, _, _, _ => exact absurd hiodd (by simp [Exs.len])
  | .cons e .nil, hiok, hiodd, hirow, hiL, hiC, hiW, hib1, hib2, hrl =>
    have hc1 := e.flat_pos
    have hec := e.code_le
    have hu0 : (posI kp (Exs.cons e .nil).list)[0]? = some (kp : Int) := rfl
    have hfl1 : (Exs.cons e .nil).flat = e.flat := by simp [Exs.flat]
    rw [hfl1] at hib1 hib2 hiL
    have hlast := nodsLe (L := L) hiL hc1
    have h1 : (Exs.cons e .nil).len = 1 := rfl
    rw [h1]
    generalize hpp : posI kp (Exs.cons e .nil).list = pp at hirow hu0
    clear hL hrl hsz
    (repeat' (first|refine zza ?_|refine zc9 ?_|refine zzb fun w hw => ?_|refine zzh fun _ => ?_|refine zzi fun _ _ => ?_|refine zv1 ?_|refine zv2 ?_|refine zzj (fun _ => ?_) fun _ => ?_))
    refine WL_op rfl rfl (y_indexN (i := 0) rfl rfl rfl (by omega)) ?_
    refine WL_op rfl rfl (y_load rfl (show RdC _ _ _ [.int .i64 (kp : Int)] from rd_row (enc := encI) hirow .here hu0)) ?_
    refine WL_callG (m1 := mkS b p L.length c H oi zs qi wq) (r := [blk bw 70 #[.int .i64 (k : Int), .int .i64 (N : Int), .int .i64 (call : Int)]]) (X := Rd × List InsM × (Option Addr × Nat) × (Option Addr × Nat)) (V := fun _ => .tuple #[]) (Gx := fun z => z.1) (M := fun z => mkS b p L.length c H z.2.2.1 (zs ++ z.2.1) z.2.2.2 (wq ++ e.waits zs.length kp)) (I := fun z => z.2.1.map InsM.ins = e.code H ∧ ∀ x ∈ z.2.1, InsG z.1 x) zent rfl rfl rfl (fun W fp' hW hO hS hF => code_expression p c L h400 _ e kp d b _ H oi qi zs wq Gi W fp' (Nat.le_refl _) hiok.1 hiL (hR.mono higr.1) (fun x hx => (hB x hx).mono higr.1) hO hS ⟨by omega⟩ ⟨by omega⟩) ?_
    rintro ⟨Ga, za, oa, qa⟩ ⟨hza, hzaG⟩ hGa
    dsimp only at hza hzaG hGa ⊢
    have hzal : za.length = (e.code 0).length := by rw [← List.length_map (f := InsM.ins), hza, Ex.code_len H e]
    (repeat' (first|refine zza ?_|refine zc9 ?_|refine zzb fun w hw => ?_|refine zzh fun _ => ?_|refine zzi fun _ _ => ?_|refine zv1 ?_|refine zv2 ?_|refine zzj (fun _ => ?_) fun _ => ?_))
    refine WL_callUX (m1 := [mkr b p L.length c (oa.1, (zs ++ za).length, oa.2) (qa.1, (wq ++ e.waits zs.length kp).length, qa.2) H, outS (oa.1, (zs ++ za).length, oa.2) (zs ++ za)]) (r := [queS qa (wq ++ e.waits zs.length kp), blk bw 70 #[.int .i64 (k : Int), .int .i64 (N : Int), .int .i64 (call : Int)]]) zent rfl rfl rfl (fun W fp' hO hS => code_put Ga b p L.length c oa (qa.1, (wq ++ e.waits zs.length kp).length, qa.2) H (zs ++ za) ⟨11, 0, 0, 0, 0, 0, ⟨none, 0, []⟩, []⟩ W fp' hO hS (by rw [List.length_append]; omega)) ?_
    rintro z1 _
    (repeat' (first|refine zza ?_|refine zc9 ?_|refine zzb fun w hw => ?_|refine zzh fun _ => ?_|refine zzi fun _ _ => ?_|refine zv1 ?_|refine zv2 ?_|refine zzj (fun _ => ?_) fun _ => ?_))
    refine ⟨(Ga, zs ++ za ++ [⟨11, 0, 0, 0, 0, 0, ⟨none, 0, []⟩, []⟩], z1, qa), ⟨?_, fun y hy => ?_⟩, rfl, Rd.grow_tr higr hGa, ?_⟩
    · rw [List.map_append, List.map_append, hza, List.append_assoc]
      rw [← hx1m, ← hx1l, ← hH, ← hC, ← hiC]
      rfl
    · simp only [List.mem_append, List.mem_singleton] at hy
      rcases hy with (hy | hy) | hy
      · exact (hiG y hy).mono hGa.1
      · exact hzaG y hy
      · rw [hy]; exact ⟨by simp, Row.nil _ _ _, by simp⟩
    · dsimp only
      rw [← hx1l, ← hH, ← hWQ, ← hiW]
      exact hw.ent zent
  | .cons c1 (.cons v r2), hiok, hiodd, hirow, hiL, hiC, hiW, hib1, hib2, hrl =>
    obtain ⟨hok1, hok2, hokr⟩ := hiok
    obtain ⟨nn, hnn⟩ : ∃ nn, nn = (Exs.cons c1 (.cons v r2)).len := ⟨_, rfl⟩
    have hn2 : nn = r2.len + 2 := by rw [hnn]; simp [Exs.len]
    have hfl2 : (Exs.cons c1 (.cons v r2)).flat = c1.flat ++ (v.flat ++ r2.flat) := by simp [Exs.flat]
    have hl2 : (Exs.cons c1 (.cons v r2)).list = c1 :: v :: r2.list := rfl
    have hc1 := c1.flat_pos
    have hv1 := v.flat_pos
    have hr2 := r2.flat_len
    have hcc := c1.code_le
    have hvc := v.code_le
    have hcw := c1.waits_le zs.length kp
    have hr2p : 1 ≤ r2.len := by simp only [Exs.len] at hiodd; omega
    have hu0 : (posI kp (Exs.cons c1 (.cons v r2)).list)[0]? = some (kp : Int) := by rw [hl2]; rfl
    have hu1 : (posI kp (Exs.cons c1 (.cons v r2)).list)[1]? = some ((kp + c1.flat.length : Nat) : Int) := by rw [hl2]; rfl
    have hdr : (posI kp (Exs.cons c1 (.cons v r2)).list).drop 2 = posI (kp + c1.flat.length + v.flat.length) r2.list := by rw [hl2]; rfl
    have hpl : (posI kp (Exs.cons c1 (.cons v r2)).list).length = nn := by rw [posI_len, Exs.list_len, hnn]
    rw [hfl2] at hib1 hib2 hiL
    simp only [List.length_append] at hib1 hib2
    have hL1 : (L.drop kp).map NodM.nod = c1.flat ++ (v.flat ++ (r2.flat ++ rest)) := by rw [hiL]; simp
    have hL2 := nodsDrop hL1
    have hL3 := nodsDrop hL2
    have hlast := nodsLe (L := L) hL1 hc1
    have hlast2 := nodsLe (L := L) hL2 hv1
    have hlen400 : nn ≤ 400 := by
      have := nodsLe (L := L) hL3 (by omega)
      omega
    rw [← hnn]
    generalize hpp : posI kp (Exs.cons c1 (.cons v r2)).list = pp at hirow hu0 hu1 hdr hpl
    clear hL hrl hsz
    (repeat' (first|refine zza ?_|refine zc9 ?_|refine zzb fun w hw => ?_|refine zzh fun _ => ?_|refine zzi fun _ _ => ?_))
    refine WL_op rfl rfl (y_indexN (i := 0) rfl rfl rfl (by omega)) ?_
    refine WL_op rfl rfl (y_load rfl (show RdC _ _ _ [.int .i64 (kp : Int)] from rd_row (enc := encI) hirow .here hu0)) ?_
    refine WL_callG (m1 := mkS b p L.length c H oi (zs) qi (wq)) (r := [blk bw 70 #[.int .i64 (k : Int), .int .i64 (N : Int), .int .i64 (call : Int)]]) (X := Rd × List InsM × (Option Addr × Nat) × (Option Addr × Nat)) (V := fun _ => .tuple #[]) (Gx := fun z => z.1) (M := fun z => mkS b p L.length c H z.2.2.1 (zs ++ z.2.1) z.2.2.2 (wq ++ Ex.waits (zs).length (kp) c1)) (I := fun z => z.2.1.map InsM.ins = Ex.code H c1 ∧ ∀ x ∈ z.2.1, InsG z.1 x) zent rfl rfl rfl (fun W fp' hW hO hS hF => code_expression p c L h400 _ c1 (kp) d b _ H oi qi (zs) (wq) Gi W fp' (Nat.le_refl _) hok1 hL1 (hR.mono higr.1) (fun x hx => (hB x hx).mono higr.1) hO hS ⟨by omega⟩ ⟨by omega⟩) ?_
    rintro ⟨Ga, za, oa, qa⟩ ⟨hza, hzaG⟩ hGa
    dsimp only at hza hzaG hGa ⊢
    have hzal : za.length = (Ex.code 0 c1).length := by rw [← List.length_map (f := InsM.ins), hza, Ex.code_len H c1]
    (repeat' (first|refine zza ?_|refine zc9 ?_|refine zzb fun w hw => ?_|refine zzh fun _ => ?_|refine zzi fun _ _ => ?_))
    refine WL_callUX (m1 := [mkr b p L.length c (oa.1, (zs ++ za).length, oa.2) (qa.1, (wq ++ c1.waits zs.length kp).length, qa.2) H, outS (oa.1, (zs ++ za).length, oa.2) (zs ++ za)]) (r := [queS qa (wq ++ c1.waits zs.length kp), blk bw 70 #[.int .i64 (k : Int), .int .i64 (N : Int), .int .i64 (call : Int)]]) zent rfl rfl rfl (fun W fp' hO hS => code_put Ga b p L.length c oa (qa.1, (wq ++ c1.waits zs.length kp).length, qa.2) H (zs ++ za) ⟨9, 0, 0, 0, 0, 0, ⟨none, 0, []⟩, []⟩ W fp' hO hS (by rw [List.length_append]; omega)) ?_
    rintro z1 _
    (repeat' (first|refine zza ?_|refine zc9 ?_|refine zzb fun w hw => ?_|refine zzh fun _ => ?_|refine zzi fun _ _ => ?_))
    obtain ⟨zb, hzb⟩ : ∃ zb, zb = zs ++ za ++ [(⟨9, 0, 0, 0, 0, 0, ⟨none, 0, []⟩, []⟩ : InsM)] := ⟨_, rfl⟩
    obtain ⟨wb, hwb⟩ : ∃ wb, wb = wq ++ c1.waits zs.length kp := ⟨_, rfl⟩
    have hzal2 : (zs ++ za).length = zs.length + (c1.code 0).length := by rw [List.length_append, hzal]
    have hzbl : zb.length = zs.length + (c1.code 0).length + 1 := by rw [hzb, List.length_append, hzal2]; rfl
    have hwbl : wb.length ≤ wq.length + c1.flat.length := by rw [hwb, List.length_append]; omega
    have hvw := v.waits_le zb.length (kp + c1.flat.length)
    rw [← hzb, ← hwb]
    refine WL_op rfl rfl (y_indexN (i := 1) rfl rfl rfl (by omega)) ?_
    refine WL_op rfl rfl (y_load rfl (show RdC _ _ _ [.int .i64 ((kp + c1.flat.length : Nat) : Int)] from rd_row (enc := encI) (hirow.mono hGa.1) .here hu1)) ?_
    refine WL_callG (m1 := mkS b p L.length c H z1 (zb) qa (wb)) (r := [blk bw 70 #[.int .i64 (k : Int), .int .i64 (N : Int), .int .i64 (call : Int)]]) (X := Rd × List InsM × (Option Addr × Nat) × (Option Addr × Nat)) (V := fun _ => .tuple #[]) (Gx := fun z => z.1) (M := fun z => mkS b p L.length c H z.2.2.1 (zb ++ z.2.1) z.2.2.2 (wb ++ Ex.waits (zb).length (kp + c1.flat.length) v)) (I := fun z => z.2.1.map InsM.ins = Ex.code H v ∧ ∀ x ∈ z.2.1, InsG z.1 x) zent rfl rfl rfl (fun W fp' hW hO hS hF => code_expression p c L h400 _ v (kp + c1.flat.length) d b _ H z1 qa (zb) (wb) Ga W fp' (Nat.le_refl _) hok2 hL2 (hR.mono (Rd.le_trans higr.1 hGa.1)) (fun x hx => (hB x hx).mono (Rd.le_trans higr.1 hGa.1)) hO hS ⟨by omega⟩ ⟨by omega⟩) ?_
    rintro ⟨Gb, zv, ob, qb⟩ ⟨hzv, hzvG⟩ hGb
    dsimp only at hzv hzvG hGb ⊢
    have hzvl : zv.length = (Ex.code 0 v).length := by rw [← List.length_map (f := InsM.ins), hzv, Ex.code_len H v]
    (repeat' (first|refine zza ?_|refine zc9 ?_|refine zzb fun w hw => ?_|refine zzh fun _ => ?_|refine zzi fun _ _ => ?_))
    have hzvl2 : (zb ++ zv).length = zs.length + (c1.code 0).length + 1 + (v.code 0).length := by rw [List.length_append, hzbl, hzvl]
    refine WL_callUX (m1 := [mkr b p L.length c (ob.1, (zb ++ zv).length, ob.2) (qb.1, (wb ++ v.waits zb.length (kp + c1.flat.length)).length, qb.2) H, outS (ob.1, (zb ++ zv).length, ob.2) (zb ++ zv)]) (r := [queS qb (wb ++ v.waits zb.length (kp + c1.flat.length)), blk bw 70 #[.int .i64 (k : Int), .int .i64 (N : Int), .int .i64 (call : Int)]]) zent rfl rfl rfl (fun W fp' hO hS => code_put Gb b p L.length c ob (qb.1, (wb ++ v.waits zb.length (kp + c1.flat.length)).length, qb.2) H (zb ++ zv) ⟨11, 0, 0, 0, 0, 0, ⟨none, 0, []⟩, []⟩ W fp' hO hS (by rw [hzvl2]; omega)) ?_
    rintro z2 _
    obtain ⟨zc, hzc⟩ : ∃ zc, zc = zb ++ zv ++ [(⟨11, 0, 0, 0, 0, 0, ⟨none, 0, []⟩, []⟩ : InsM)] := ⟨_, rfl⟩
    have hzcl : zc.length = zs.length + (c1.code 0).length + 1 + (v.code 0).length + 1 := by rw [hzc, List.length_append, hzvl2]; rfl
    rw [← hzc]
    (repeat' (first|refine zza ?_|refine zc9 ?_|refine zzb fun w hw => ?_|refine zzh fun _ => ?_|refine zzi fun _ _ => ?_))
    refine WL_op rfl rfl (y_ixo rfl rfl zpk (show (zs ++ za).length < zc.length by omega)) ?_
    (repeat' (first|refine zza ?_|refine zc9 ?_|refine zzb fun w hw => ?_|refine zzh fun _ => ?_|refine zzi fun _ _ => ?_))
    refine WL_storeF (i := (zs ++ za).length) (j := 5) rfl rfl rfl zpk (show (zs ++ za).length * 8 + 5 < zc.length * 8 by omega) rfl rfl ?_
    have hcast : ((zb ++ zv).length : Int) + 1 = ((zs.length + (c1.code 0).length + 1 + (v.code 0).length + 1 : Nat) : Int) := by rw [hzvl2]; rfl
    rw [ins_set _ zc _ (show (zs ++ za).length < zc.length by omega), hcast]
    obtain ⟨zd, hzd⟩ : ∃ zd, zd = zc.modify (zs ++ za).length (setD ((zs.length + (c1.code 0).length + 1 + (v.code 0).length + 1 : Nat) : Int)) := ⟨_, rfl⟩
    have hzdl : zd.length = zc.length := by rw [hzd, List.length_modify]
    rw [← hzd, ← hzdl]
    have hcapn := hirow.le
    rw [hpl] at hcapn
    (repeat' (first|refine zza ?_|refine zc9 ?_|refine zzb fun w hw => ?_|refine zzh fun _ => ?_|refine zzi fun _ _ => ?_))
    refine WL_op rfl rfl (y_lo2 rfl rfl (by omega) hcapn) ?_
    rw [show nn - 2 = r2.len by omega]
    have hrowN := (hirow.mono (Rd.le_trans hGa.1 hGb.1)).drop2 (by omega)
    rw [hdr] at hrowN
    have hCN : zd.map InsM.ins ++ r2.func H zd.length = C := by
      rw [hzdl, hzcl, ← hiC, hzd, ins_patch, hzc, hzb]
      unfold patch
      rw [show (zs ++ za ++ [(⟨9, 0, 0, 0, 0, 0, ⟨none, 0, []⟩, []⟩ : InsM)] ++ zv ++ [(⟨11, 0, 0, 0, 0, 0, ⟨none, 0, []⟩, []⟩ : InsM)]) = (zs ++ za) ++ (⟨9, 0, 0, 0, 0, 0, ⟨none, 0, []⟩, []⟩ : InsM) :: (zv ++ [(⟨11, 0, 0, 0, 0, 0, ⟨none, 0, []⟩, []⟩ : InsM)]) by simp]
      rw [List.map_append, List.map_cons, show (zs ++ za).length = ((zs ++ za).map InsM.ins).length by simp, modify_mid]
      simp only [List.map_append, hza, hzv, Exs.func, List.map_cons, List.map_nil]
      simp [setTo, testI, retI, InsM.ins]
    have hWN : (wb ++ v.waits zb.length (kp + c1.flat.length)) ++ r2.funcW zd.length (kp + c1.flat.length + v.flat.length) = WQ := by
      rw [← hiW, hwb, hzdl, hzcl, hzbl]
      simp [Exs.funcW]
    have hGN : ∀ y ∈ zd, InsG Gb y := by
      rw [hzd]
      refine insG_modify fun y hy => ?_
      rw [hzc, hzb] at hy
      simp only [List.mem_append, List.mem_singleton] at hy
      rcases hy with (((hy | hy) | hy) | hy) | hy
      · exact (hiG y hy).mono (Rd.le_trans hGa.1 hGb.1)
      · exact (hzaG y hy).mono hGb.1
      · rw [hy]; exact ⟨by simp, Row.nil _ _ _, by simp⟩
      · exact hzvG y hy
      · rw [hy]; exact ⟨by simp, Row.nil _ _ _, by simp⟩
    (repeat' (first|refine zza ?_|refine zc9 ?_|refine zzb fun w hw => ?_|refine zzh fun _ => ?_|refine zzi fun _ _ => ?_))
    refine EX_loop' (Gb, zd, z2, qb, r2, kp + c1.flat.length + v.flat.length, a.add 2, cap - 2, wb ++ v.waits zb.length (kp + c1.flat.length)) ⟨zcov, ?_, by dsimp only [Exs.len]; omega, hokr, by dsimp only; simp only [Exs.len] at hiodd; omega, hrowN, hL3, hCN, hWN, hGN, Rd.grow_tr higr (Rd.grow_tr hGa hGb), ?_, ?_⟩
    · dsimp only
      exact zent
    · dsimp only; rw [hzdl, hzcl]; omega
    · dsimp only; rw [List.length_append]; omega
end Go.Proofs.YtdmapiaejcnibaaDoor
