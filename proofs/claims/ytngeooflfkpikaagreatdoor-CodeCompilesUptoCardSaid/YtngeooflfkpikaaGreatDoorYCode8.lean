/-
  code: the code of a function that waited.
  code: the code of a line.
  Laws on code: Compile as a law calls it.
-/
import Derived.Test.YtngeooflfkpikaaGreatDoorYGo
import Derived.Test.YtngeooflfkpikaaGreatDoorYCode6
import Derived.Test.YtngeooflfkpikaaGreatDoorYCodePlain
import Derived.Test.YtngeooflfkpikaaGreatDoorYPar
import Derived.Test.YtngeooflfkpikaaGreatDoorYTreeChk
namespace Go.Proofs.YtngeooflfkpikaaGreatDoor
open Go.RowKit
def setD (t : Int) (y : InsM) : InsM := { y with dst := t }
theorem insE_len (y : InsM) : (insE y).length = 8 := rfl
theorem ins_set (t : Int) : ∀ (xs : List InsM) (i : Nat), i < xs.length → (xs.flatMap insE).set (i * 8 + 5) (.int .i64 t) = (xs.modify i (setD t)).flatMap insE
  | [], _, h => by simp at h
  | y :: r, 0, _ => by
    rw [List.modify_zero_cons, List.flatMap_cons, List.flatMap_cons]
    rw [List.set_append_left _ _ (by rw [insE_len]; omega)]
    rfl
  | y :: r, i + 1, h => by
    rw [List.modify_succ_cons, List.flatMap_cons, List.flatMap_cons, List.set_append_right _ _ (by rw [insE_len]; omega), insE_len, show (i + 1) * 8 + 5 - 8 = i * 8 + 5 by omega, ins_set t r i (by simpa using h)]
theorem ins_patch (t : Int) (xs : List InsM) (i : Nat) : (xs.modify i (setD t)).map InsM.ins = patch (xs.map InsM.ins) i t := by
  unfold patch
  apply List.ext_getElem?
  intro j
  simp only [List.getElem?_map, List.getElem?_modify, Option.map_eq_map]
  cases xs[j]? with
  | none => rfl
  | some y => by_cases h : i = j <;> simp [h] <;> rfl
theorem insG_modify {G : Rd} {xs : List InsM} {i : Nat} {t : Int} (h : ∀ x ∈ xs, InsG G x) : ∀ x ∈ xs.modify i (setD t), InsG G x := fun x hx => by
  obtain ⟨j, hj⟩ := List.mem_iff_getElem?.1 hx
  rw [List.getElem?_modify] at hj
  cases hy : xs[j]? with
  | none => rw [hy] at hj; simp at hj
  | some y =>
    rw [hy] at hj
    have hg := h y (List.mem_of_getElem? hy)
    simp only [Option.map_eq_map, Option.map_some, Option.some.injEq] at hj
    by_cases hij : i = j
    · rw [if_pos hij] at hj; subst hj; exact ⟨hg.text, hg.nums, hg.numsL⟩
    · rw [if_neg hij] at hj; subst hj; exact hg
theorem modify_mid {α : Type} (A B : List α) (x : α) (f : α → α) : (A ++ x :: B).modify A.length f = A ++ f x :: B := by
  induction A with
  | nil => rfl
  | cons a A ih => rw [List.cons_append, List.length_cons, List.modify_succ_cons, ih]; rfl
/-- `s[2:]` of a slice of ints that is longer -/
theorem y_lo2 {P : Program} {K : Cx} {ρ : Env} {m : List HP} {dst : Option Nat} {ty t e : TypeId} {pos : String} {aft : Array Edge} {g : Option (Nat × Bool)} {x y : Operand} {a : Addr} {n c : Nat} [S : SlT P t e 1] {k : IntKind} (hx : opv ρ x = some (.slice (some a) n c)) (hy : opv ρ y = some (.int k 2)) (hn : 3 ≤ n) (hc : n ≤ c) :
    Yi P K ρ m ⟨dst, .slice t x (some y) none none, ty, pos, aft, g⟩ (.slice (some (a.add 2)) (n - 2) (c - 2)) := ⟨fun A w hf _ => by
  have he : P.elem t = e := by simp [Program.elem, S.und]
  have ht' : P.underlying t = some (.slice (P.elem t)) := by rw [he]; exact S.und
  have h4 : (Instr.sliceAt t (.slice (some a) n c) (some (.int k 2)) none none).run P w = .ok (.slice (some (a.add 2)) (n - 2) (c - 2)) w := by
    rw [run_sliceAt_slice (w := w) t _ _ _ _ ht', run_slice_l (w := w) t (some a) n c ht' k 2 (by omega) (by omega), he, S.size w]
    simp [Result.andThen, sliced]
    omega
  simp only [execOp, Option.map_some, Option.map_none, hf.eval hx, hf.eval hy]
  simp [h4]⟩
theorem Row.drop2 {G : Rd} {a : Addr} {c : Nat} {xs : List Int} (h : Row encI 1 G (some a) c xs) (hn : 3 ≤ xs.length) : Row encI 1 G (some (a.add 2)) (c - 2) (xs.drop 2) := ⟨by have := h.le; simp; omega, by have := h.max; omega, fun _ => rfl, fun i x hx j v hv => by
  rw [List.getElem?_drop] at hx
  have := h.cell (2 + i) x hx j v hv
  rw [← this]
  congr 2
  unfold addrAt
  show (a.add 2).add (i * 1) = a.add ((2 + i) * 1)
  rw [Go.Deep.add_add]
  congr 1; omega⟩
/-- an own slice of ints is only read from here on -/
theorem WL_toRo {P : Program} {K : Cx} {ρ : Env} {m r : List HP} {ops : Array Oper} {Q : Exit → Act → World → Prop} {rest : List Oper} {G : Rd} {e : TypeId} {n c : Nat} {p : Option Addr} {xs : List Int} (he : Ent m (ro K.w0 K.F G :: sl e 1 p n c (xs.map (Value.int .i64)) :: r)) (hF : ∀ fp w, Own r fp w → ∀ i ∈ K.F, i ∈ fp)
    (k : ∀ G', Rd.grow K.w0 G G' → Row encI 1 G' p c xs → WL P K ops Q rest ρ (ro K.w0 K.F G' :: r)) : WL P K ops Q rest ρ m := ⟨fun a w hf hm => by
  rw [← flat_ints] at he
  obtain ⟨G', g1, g2, g3⟩ := Holds.toRo (α := Int) (enc := encI) (sz := 1) (fun _ => rfl) (by decide) (hm.ent he) (fun f hf => hF f w hf)
  exact (k G' g1 g2).run a w hf g3⟩
/-- what the making of a function's code tells -/
def GotF (b : Nat) (p : Option Addr) (c : Nat) (L : List NodM) (bb : Exs) (k call : Nat) (xs : List InsM) (ws : List Wt) (G : Rd) (w : World) (fp : List Nat) (en : Ending) (w' : World) : Prop :=
  ∃ z : Rd × List InsM × (Option Addr × Nat) × (Option Addr × Nat), (z.2.1.map InsM.ins = patch (xs.map InsM.ins) call (xs.length : Int) ++ bb.func (xs.length : Int) xs.length ∧ ∀ x ∈ z.2.1, InsG z.1 x) ∧ en = .returned (.tuple #[]) ∧ Rd.grow w G z.1 ∧
    Holds w fp (ro w fp z.1 :: mkS b p L.length c (xs.length : Int) z.2.2.1 z.2.1 z.2.2.2 (ws ++ bb.funcW xs.length k)) w'
set_option maxHeartbeats 8000000 in
set_option maxRecDepth 100000 in
theorem code_function (p : Option Addr) (c : Nat) (L : List NodM) (h400 : L.length ≤ 400) (bb : Exs) (k d b call N : Nat) (rest : List Nod) (h : Int) (o q : Option Addr × Nat) (xs : List InsM) (ws : List Wt) (G : Rd) (w : World) (fp : List Nat)
    (hok : bb.ok d) (hlen : bb.len = 2 * N + 1) (hL : (L.drop k).map NodM.nod = bb.flat ++ rest) (hcl : call < xs.length) (hR : Row nodE 7 G p c L) (hB : ∀ x ∈ L, NodG G x) (hX : ∀ x ∈ xs, InsG G x) (hO : Own (mkS b p L.length c h o xs q ws) fp w) (hS : Rd.sub G fp w) (hxs : xs.length ≤ 400000) (hws : ws.length ≤ 400000) :
    Calls Tryz.prog 28 #[.pointer (some ⟨b, 0, none⟩), .agg #[.int .i64 (k : Int), .int .i64 (N : Int), .int .i64 (call : Int)]] w (GotF b p c L bb k call xs ws G w fp) := by
  have hn : ∀ x ∈ L, I64 x.n := fun x hx => (hB x hx).n
  have hfl := bb.flat_len
  have hle := nodsLe hL (by omega)
  refine enterR (G := G) (args := [_, _]) hS hO Tryz.func28 rfl Tryz.ntmps28 (by simp) ?_
  have hfp := (own_mkS hO).1
  clear hS hO
  (repeat' (first|refine zza ?_|refine zzb fun w hw => ?_|refine zzh fun _ => ?_|refine zzi fun _ _ => ?_|refine zzj (fun _ => ?_) fun _ => ?_))
  rename_i bw
  refine CW_ent (m' := [mkr b p L.length c (o.1, xs.length, o.2) (q.1, ws.length, q.2) (xs.length : Int), blk bw 84 #[.int .i64 (k : Int), .int .i64 (N : Int), .int .i64 (call : Int)], ro w fp G, outS (o.1, xs.length, o.2) xs, queS q ws]) (Ent.consK (k := Ent.refl) .here) ?_
  refine CW_perm 12 [0, 1, 2, 3, 4, 5, 6, 7, 8, 9, 10, 11] [mkr b p L.length c (o.1, xs.length, o.2) (q.1, ws.length, q.2) (xs.length : Int), blk bw 84 #[.int .i64 (k : Int), .int .i64 (N : Int), .int .i64 (call : Int)], ro w fp G, outS (o.1, xs.length, o.2) xs, queS q ws] [] Cov.nil (pm := []) zent (by kernel_rfl) (by decide +kernel) (by kernel_rfl) ?_
  (refine WP_op rfl rfl rfl zyi ?_)
  (refine WP_op rfl rfl rfl zyi ?_)
  (refine WP_op rfl rfl rfl zyi ?_)
  (refine WP_op rfl rfl rfl zyi ?_)
  (refine WP_op rfl rfl rfl zyi ?_)
  (refine WP_op rfl rfl rfl zyi ?_)
  (refine WP_op rfl rfl rfl zyi ?_)
  (refine WP_op rfl rfl rfl zyi ?_)
  (refine WP_op rfl rfl rfl zyi ?_)
  (refine WP_op rfl rfl rfl zyi ?_)
  refine WP_op rfl rfl rfl (y_ixo rfl rfl (.there (.there (.there .here))) hcl) ?_
  (refine WP_op rfl rfl rfl zyi ?_)
  refine WP_end ?_
  refine WL_storeF (i := call) (j := 5) rfl rfl rfl (.there (.there (.there .here))) (show call * 8 + 5 < xs.length * 8 by omega) rfl rfl ?_
  rw [ins_set (xs.length : Int) xs call hcl]
  obtain ⟨x1, hx1⟩ : ∃ x1, x1 = xs.modify call (setD (xs.length : Int)) := ⟨_, rfl⟩
  have hx1l : x1.length = xs.length := by rw [hx1, List.length_modify]
  have hx1G : ∀ x ∈ x1, InsG G x := by rw [hx1]; exact insG_modify hX
  have hx1m : x1.map InsM.ins = patch (xs.map InsM.ins) call (xs.length : Int) := by rw [hx1, ins_patch]
  have hS2 : (2 : Int) * (N : Int) + 1 = (bb.list.length : Int) := by rw [Exs.list_len, hlen]; omega
  rw [← hx1, ← hx1l]
  (repeat' (first|refine zza ?_|refine zc9 ?_|refine zzb fun w hw => ?_|refine zzh fun _ => ?_|refine zzi fun _ _ => ?_|refine zv1 ?_|refine zv2 ?_|refine zzj (fun _ => ?_) fun _ => ?_))
  rw [hS2]
  (apply WL_callX; rfl; rfl; rfl; (intro W hW; exact code_parts p c L h400 hn bb.list k b rest W (fun s hs => ⟨d, Exs.list_ok bb d hok s hs⟩) (by rw [Exs.list_flat]; exact hL) (cell_blk hW (.there .here) rfl) (hR.mono (hW.le (.there (.there (.there .here)))))); intro _ _)
  rename_i zp _
  obtain ⟨H, hH⟩ : ∃ H : Int, H = (x1.length : Int) := ⟨_, rfl⟩
  rw [← hH]
  refine WL_toRo (r := [mkr b p L.length c (o.1, x1.length, o.2) (q.1, ws.length, q.2) H, outS (o.1, x1.length, o.2) x1, queS q ws, blk bw 84 #[.int .i64 (k : Int), .int .i64 (N : Int), .int .i64 (call : Int)]]) (G := G) zent ?_ fun G1 hg1 hrow1 => ?_
  · rintro f W ⟨f1, f2, rfl, h1, ⟨f3, f4, rfl, h3, ⟨f5, f6, rfl, h5, _⟩, _⟩, _⟩ i hi
    have e1 : f1 = [b] := h1.1
    have e3 : f3 = blkOf o.1 := h3.1
    have e5 : f5 = blkOf q.1 := h5.1
    subst e1 e3 e5
    rw [hfp] at hi
    simp only [List.mem_append, List.not_mem_nil, or_false] at hi ⊢
    rcases hi with hi | hi | hi
    · exact .inl hi
    · exact .inr (.inl hi)
    · exact .inr (.inr (.inl hi))
  obtain ⟨a0, ha0⟩ : ∃ a0, zp.1 = some a0 := Option.isSome_iff_exists.1 (hrow1.some' (by intro e0; have := congrArg List.length e0; rw [posI_len, Exs.list_len] at this; simp at this; omega))
  rw [ha0] at hrow1 ⊢
  rw [Exs.list_len]
  obtain ⟨C, hC⟩ : ∃ C, C = x1.map InsM.ins ++ bb.func H x1.length := ⟨_, rfl⟩
  obtain ⟨WQ, hWQ⟩ : ∃ WQ, WQ = ws ++ bb.funcW x1.length k := ⟨_, rfl⟩
  have hbl : 2 * bb.flat.length ≤ 800 := by omega
  have hodd : bb.len % 2 = 1 := by omega
  (repeat' (first|refine zza ?_|refine zc9 ?_|refine zzb fun w hw => ?_|refine zzh fun _ => ?_|refine zzi fun _ _ => ?_))
  refine CW_loopK (X := Rd × List InsM × (Option Addr × Nat) × (Option Addr × Nat) × Exs × Nat × Addr × Nat × List Wt) [(0,_),(3,_)] zcov (fun x => [(4, .slice (some x.2.2.2.2.2.2.1) x.2.2.2.2.1.len x.2.2.2.2.2.2.2.1)]) (fun x => [ro w fp x.1, mkr b p L.length c (x.2.2.1.1, x.2.1.length, x.2.2.1.2) (x.2.2.2.1.1, x.2.2.2.2.2.2.2.2.length, x.2.2.2.1.2) H, outS (x.2.2.1.1, x.2.1.length, x.2.2.1.2) x.2.1, queS x.2.2.2.1 x.2.2.2.2.2.2.2.2, blk bw 84 #[.int .i64 (k : Int), .int .i64 (N : Int), .int .i64 (call : Int)]])
    (fun x => x.2.2.2.2.1.ok d ∧ x.2.2.2.2.1.len % 2 = 1 ∧ Row encI 1 x.1 (some x.2.2.2.2.2.2.1) x.2.2.2.2.2.2.2.1 (posI x.2.2.2.2.2.1 x.2.2.2.2.1.list) ∧ (L.drop x.2.2.2.2.2.1).map NodM.nod = x.2.2.2.2.1.flat ++ rest ∧ x.2.1.map InsM.ins ++ x.2.2.2.2.1.func H x.2.1.length = C ∧ x.2.2.2.2.2.2.2.2 ++ x.2.2.2.2.1.funcW x.2.1.length x.2.2.2.2.2.1 = WQ ∧ (∀ y ∈ x.2.1, InsG x.1 y) ∧ Rd.grow w G x.1 ∧ x.2.1.length + 2 * x.2.2.2.2.1.flat.length ≤ 401000 ∧ x.2.2.2.2.2.2.2.2.length + x.2.2.2.2.1.flat.length ≤ 401000) (fun x => x.2.2.2.2.1.len) (G1, x1, o, q, bb, k, a0, zp.2, ws) ⟨hok, hodd, hrow1, hL, hC.symm, hWQ.symm, fun y hy => (hx1G y hy).mono hg1.1, hg1, by dsimp only; omega, by dsimp only; omega⟩ zcov zent ?_
  rintro ⟨Gi, zs, oi, qi, rb, kp, a, cap, wq⟩ ⟨hiok, hiodd, hirow, hiL, hiC, hiW, hiG, higr, hib1, hib2⟩
  dsimp only at hiok hiodd hirow hiL hiC hiW hiG higr hib1 hib2 ⊢
  have hsz : ∀ y : Exs, y.len ≤ 400 → ((y.len : Nat) : Int) ≤ 400 := fun y hy => by omega
  have hrl := rb.flat_len
  match rb, hiok, hiodd, hirow, hiL, hiC, hiW, hib1, hib2, hrl with
  | .nil, _, hiodd, _, _, _, _, _, _, _ => exact absurd hiodd (by simp [Exs.len])
  | .cons e .nil, hiok, hiodd, hirow, hiL, hiC, hiW, hib1, hib2, hrl =>
    have hc1 := e.flat_pos
    have hec := e.code_le
    have hu0 : (posI kp (Exs.cons e .nil).list)[0]? = some (kp : Int) := rfl
    have hfl1 : (Exs.cons e .nil).flat = e.flat := by simp [Exs.flat]
    rw [hfl1] at hib1 hib2 hiL
    have hlast := nodsLe (L := L) hiL hc1
    have h1 : (Exs.cons e .nil).len = 1 := rfl
    rw [h1]
    generalize hpp : posI kp (Exs.cons e .nil).list = pp at hirow hu0
    clear hL hrl hsz
    (repeat' (first|refine zza ?_|refine zc9 ?_|refine zzb fun w hw => ?_|refine zzh fun _ => ?_|refine zzi fun _ _ => ?_|refine zv1 ?_|refine zv2 ?_|refine zzj (fun _ => ?_) fun _ => ?_))
    refine WL_op rfl rfl (y_indexN (i := 0) rfl rfl rfl (by omega)) ?_
    refine WL_op rfl rfl (y_load rfl (show RdC _ _ _ [.int .i64 (kp : Int)] from rd_row (enc := encI) hirow .here hu0)) ?_
    refine WL_callG (m1 := mkS b p L.length c H oi zs qi wq) (r := [blk bw 84 #[.int .i64 (k : Int), .int .i64 (N : Int), .int .i64 (call : Int)]]) (X := Rd × List InsM × (Option Addr × Nat) × (Option Addr × Nat)) (V := fun _ => .tuple #[]) (Gx := fun z => z.1) (M := fun z => mkS b p L.length c H z.2.2.1 (zs ++ z.2.1) z.2.2.2 (wq ++ e.waits zs.length kp)) (I := fun z => z.2.1.map InsM.ins = e.code H ∧ ∀ x ∈ z.2.1, InsG z.1 x) zent rfl rfl rfl (fun W fp' hW hO hS hF => code_expression p c L h400 _ e kp d b _ H oi qi zs wq Gi W fp' (Nat.le_refl _) hiok.1 hiL (hR.mono higr.1) (fun x hx => (hB x hx).mono higr.1) hO hS ⟨by omega⟩ ⟨by omega⟩) ?_
    rintro ⟨Ga, za, oa, qa⟩ ⟨hza, hzaG⟩ hGa
    dsimp only at hza hzaG hGa ⊢
    have hzal : za.length = (e.code 0).length := by rw [← List.length_map (f := InsM.ins), hza, Ex.code_len H e]
    (repeat' (first|refine zza ?_|refine zc9 ?_|refine zzb fun w hw => ?_|refine zzh fun _ => ?_|refine zzi fun _ _ => ?_|refine zv1 ?_|refine zv2 ?_|refine zzj (fun _ => ?_) fun _ => ?_))
    refine WL_callUX (m1 := [mkr b p L.length c (oa.1, (zs ++ za).length, oa.2) (qa.1, (wq ++ e.waits zs.length kp).length, qa.2) H, outS (oa.1, (zs ++ za).length, oa.2) (zs ++ za)]) (r := [queS qa (wq ++ e.waits zs.length kp), blk bw 84 #[.int .i64 (k : Int), .int .i64 (N : Int), .int .i64 (call : Int)]]) zent rfl rfl rfl (fun W fp' hO hS => code_put Ga b p L.length c oa (qa.1, (wq ++ e.waits zs.length kp).length, qa.2) H (zs ++ za) ⟨11, 0, 0, 0, 0, 0, ⟨none, 0, []⟩, []⟩ W fp' hO hS (by rw [List.length_append]; omega)) ?_
    rintro z1 _
    (repeat' (first|refine zza ?_|refine zc9 ?_|refine zzb fun w hw => ?_|refine zzh fun _ => ?_|refine zzi fun _ _ => ?_|refine zv1 ?_|refine zv2 ?_|refine zzj (fun _ => ?_) fun _ => ?_))
    refine ⟨(Ga, zs ++ za ++ [⟨11, 0, 0, 0, 0, 0, ⟨none, 0, []⟩, []⟩], z1, qa), ⟨?_, fun y hy => ?_⟩, rfl, Rd.grow_tr higr hGa, ?_⟩
    · rw [List.map_append, List.map_append, hza, List.append_assoc]
      rw [← hx1m, ← hx1l, ← hH, ← hC, ← hiC]
      rfl
    · simp only [List.mem_append, List.mem_singleton] at hy
      rcases hy with (hy | hy) | hy
      · exact (hiG y hy).mono hGa.1
      · exact hzaG y hy
      · rw [hy]; exact ⟨by simp, Row.nil _ _ _, by simp⟩
    · dsimp only
      rw [← hx1l, ← hH, ← hWQ, ← hiW]
      exact hw.ent zent
  | .cons c1 (.cons v r2), hiok, hiodd, hirow, hiL, hiC, hiW, hib1, hib2, hrl =>
    obtain ⟨hok1, hok2, hokr⟩ := hiok
    obtain ⟨nn, hnn⟩ : ∃ nn, nn = (Exs.cons c1 (.cons v r2)).len := ⟨_, rfl⟩
    have hn2 : nn = r2.len + 2 := by rw [hnn]; simp [Exs.len]
    have hfl2 : (Exs.cons c1 (.cons v r2)).flat = c1.flat ++ (v.flat ++ r2.flat) := by simp [Exs.flat]
    have hl2 : (Exs.cons c1 (.cons v r2)).list = c1 :: v :: r2.list := rfl
    have hc1 := c1.flat_pos
    have hv1 := v.flat_pos
    have hr2 := r2.flat_len
    have hcc := c1.code_le
    have hvc := v.code_le
    have hcw := c1.waits_le zs.length kp
    have hr2p : 1 ≤ r2.len := by simp only [Exs.len] at hiodd; omega
    have hu0 : (posI kp (Exs.cons c1 (.cons v r2)).list)[0]? = some (kp : Int) := by rw [hl2]; rfl
    have hu1 : (posI kp (Exs.cons c1 (.cons v r2)).list)[1]? = some ((kp + c1.flat.length : Nat) : Int) := by rw [hl2]; rfl
    have hdr : (posI kp (Exs.cons c1 (.cons v r2)).list).drop 2 = posI (kp + c1.flat.length + v.flat.length) r2.list := by rw [hl2]; rfl
    have hpl : (posI kp (Exs.cons c1 (.cons v r2)).list).length = nn := by rw [posI_len, Exs.list_len, hnn]
    rw [hfl2] at hib1 hib2 hiL
    simp only [List.length_append] at hib1 hib2
    have hL1 : (L.drop kp).map NodM.nod = c1.flat ++ (v.flat ++ (r2.flat ++ rest)) := by rw [hiL]; simp
    have hL2 := nodsDrop hL1
    have hL3 := nodsDrop hL2
    have hlast := nodsLe (L := L) hL1 hc1
    have hlast2 := nodsLe (L := L) hL2 hv1
    have hlen400 : nn ≤ 400 := by
      have := nodsLe (L := L) hL3 (by omega)
      omega
    rw [← hnn]
    generalize hpp : posI kp (Exs.cons c1 (.cons v r2)).list = pp at hirow hu0 hu1 hdr hpl
    clear hL hrl hsz
    (repeat' (first|refine zza ?_|refine zc9 ?_|refine zzb fun w hw => ?_|refine zzh fun _ => ?_|refine zzi fun _ _ => ?_))
    refine WL_op rfl rfl (y_indexN (i := 0) rfl rfl rfl (by omega)) ?_
    refine WL_op rfl rfl (y_load rfl (show RdC _ _ _ [.int .i64 (kp : Int)] from rd_row (enc := encI) hirow .here hu0)) ?_
    refine WL_callG (m1 := mkS b p L.length c H oi (zs) qi (wq)) (r := [blk bw 84 #[.int .i64 (k : Int), .int .i64 (N : Int), .int .i64 (call : Int)]]) (X := Rd × List InsM × (Option Addr × Nat) × (Option Addr × Nat)) (V := fun _ => .tuple #[]) (Gx := fun z => z.1) (M := fun z => mkS b p L.length c H z.2.2.1 (zs ++ z.2.1) z.2.2.2 (wq ++ Ex.waits (zs).length (kp) c1)) (I := fun z => z.2.1.map InsM.ins = Ex.code H c1 ∧ ∀ x ∈ z.2.1, InsG z.1 x) zent rfl rfl rfl (fun W fp' hW hO hS hF => code_expression p c L h400 _ c1 (kp) d b _ H oi qi (zs) (wq) Gi W fp' (Nat.le_refl _) hok1 hL1 (hR.mono higr.1) (fun x hx => (hB x hx).mono higr.1) hO hS ⟨by omega⟩ ⟨by omega⟩) ?_
    rintro ⟨Ga, za, oa, qa⟩ ⟨hza, hzaG⟩ hGa
    dsimp only at hza hzaG hGa ⊢
    have hzal : za.length = (Ex.code 0 c1).length := by rw [← List.length_map (f := InsM.ins), hza, Ex.code_len H c1]
    (repeat' (first|refine zza ?_|refine zc9 ?_|refine zzb fun w hw => ?_|refine zzh fun _ => ?_|refine zzi fun _ _ => ?_))
    refine WL_callUX (m1 := [mkr b p L.length c (oa.1, (zs ++ za).length, oa.2) (qa.1, (wq ++ c1.waits zs.length kp).length, qa.2) H, outS (oa.1, (zs ++ za).length, oa.2) (zs ++ za)]) (r := [queS qa (wq ++ c1.waits zs.length kp), blk bw 84 #[.int .i64 (k : Int), .int .i64 (N : Int), .int .i64 (call : Int)]]) zent rfl rfl rfl (fun W fp' hO hS => code_put Ga b p L.length c oa (qa.1, (wq ++ c1.waits zs.length kp).length, qa.2) H (zs ++ za) ⟨9, 0, 0, 0, 0, 0, ⟨none, 0, []⟩, []⟩ W fp' hO hS (by rw [List.length_append]; omega)) ?_
    rintro z1 _
    (repeat' (first|refine zza ?_|refine zc9 ?_|refine zzb fun w hw => ?_|refine zzh fun _ => ?_|refine zzi fun _ _ => ?_))
    obtain ⟨zb, hzb⟩ : ∃ zb, zb = zs ++ za ++ [(⟨9, 0, 0, 0, 0, 0, ⟨none, 0, []⟩, []⟩ : InsM)] := ⟨_, rfl⟩
    obtain ⟨wb, hwb⟩ : ∃ wb, wb = wq ++ c1.waits zs.length kp := ⟨_, rfl⟩
    have hzal2 : (zs ++ za).length = zs.length + (c1.code 0).length := by rw [List.length_append, hzal]
    have hzbl : zb.length = zs.length + (c1.code 0).length + 1 := by rw [hzb, List.length_append, hzal2]; rfl
    have hwbl : wb.length ≤ wq.length + c1.flat.length := by rw [hwb, List.length_append]; omega
    have hvw := v.waits_le zb.length (kp + c1.flat.length)
    rw [← hzb, ← hwb]
    refine WL_op rfl rfl (y_indexN (i := 1) rfl rfl rfl (by omega)) ?_
    refine WL_op rfl rfl (y_load rfl (show RdC _ _ _ [.int .i64 ((kp + c1.flat.length : Nat) : Int)] from rd_row (enc := encI) (hirow.mono hGa.1) .here hu1)) ?_
    refine WL_callG (m1 := mkS b p L.length c H z1 (zb) qa (wb)) (r := [blk bw 84 #[.int .i64 (k : Int), .int .i64 (N : Int), .int .i64 (call : Int)]]) (X := Rd × List InsM × (Option Addr × Nat) × (Option Addr × Nat)) (V := fun _ => .tuple #[]) (Gx := fun z => z.1) (M := fun z => mkS b p L.length c H z.2.2.1 (zb ++ z.2.1) z.2.2.2 (wb ++ Ex.waits (zb).length (kp + c1.flat.length) v)) (I := fun z => z.2.1.map InsM.ins = Ex.code H v ∧ ∀ x ∈ z.2.1, InsG z.1 x) zent rfl rfl rfl (fun W fp' hW hO hS hF => code_expression p c L h400 _ v (kp + c1.flat.length) d b _ H z1 qa (zb) (wb) Ga W fp' (Nat.le_refl _) hok2 hL2 (hR.mono (Rd.le_trans higr.1 hGa.1)) (fun x hx => (hB x hx).mono (Rd.le_trans higr.1 hGa.1)) hO hS ⟨by omega⟩ ⟨by omega⟩) ?_
    rintro ⟨Gb, zv, ob, qb⟩ ⟨hzv, hzvG⟩ hGb
    dsimp only at hzv hzvG hGb ⊢
    have hzvl : zv.length = (Ex.code 0 v).length := by rw [← List.length_map (f := InsM.ins), hzv, Ex.code_len H v]
    (repeat' (first|refine zza ?_|refine zc9 ?_|refine zzb fun w hw => ?_|refine zzh fun _ => ?_|refine zzi fun _ _ => ?_))
    have hzvl2 : (zb ++ zv).length = zs.length + (c1.code 0).length + 1 + (v.code 0).length := by rw [List.length_append, hzbl, hzvl]
    refine WL_callUX (m1 := [mkr b p L.length c (ob.1, (zb ++ zv).length, ob.2) (qb.1, (wb ++ v.waits zb.length (kp + c1.flat.length)).length, qb.2) H, outS (ob.1, (zb ++ zv).length, ob.2) (zb ++ zv)]) (r := [queS qb (wb ++ v.waits zb.length (kp + c1.flat.length)), blk bw 84 #[.int .i64 (k : Int), .int .i64 (N : Int), .int .i64 (call : Int)]]) zent rfl rfl rfl (fun W fp' hO hS => code_put Gb b p L.length c ob (qb.1, (wb ++ v.waits zb.length (kp + c1.flat.length)).length, qb.2) H (zb ++ zv) ⟨11, 0, 0, 0, 0, 0, ⟨none, 0, []⟩, []⟩ W fp' hO hS (by rw [hzvl2]; omega)) ?_
    rintro z2 _
    obtain ⟨zc, hzc⟩ : ∃ zc, zc = zb ++ zv ++ [(⟨11, 0, 0, 0, 0, 0, ⟨none, 0, []⟩, []⟩ : InsM)] := ⟨_, rfl⟩
    have hzcl : zc.length = zs.length + (c1.code 0).length + 1 + (v.code 0).length + 1 := by rw [hzc, List.length_append, hzvl2]; rfl
    rw [← hzc]
    (repeat' (first|refine zza ?_|refine zc9 ?_|refine zzb fun w hw => ?_|refine zzh fun _ => ?_|refine zzi fun _ _ => ?_))
    refine WL_op rfl rfl (y_ixo rfl rfl zpk (show (zs ++ za).length < zc.length by omega)) ?_
    (repeat' (first|refine zza ?_|refine zc9 ?_|refine zzb fun w hw => ?_|refine zzh fun _ => ?_|refine zzi fun _ _ => ?_))
    refine WL_storeF (i := (zs ++ za).length) (j := 5) rfl rfl rfl zpk (show (zs ++ za).length * 8 + 5 < zc.length * 8 by omega) rfl rfl ?_
    have hcast : ((zb ++ zv).length : Int) + 1 = ((zs.length + (c1.code 0).length + 1 + (v.code 0).length + 1 : Nat) : Int) := by rw [hzvl2]; rfl
    rw [ins_set _ zc _ (show (zs ++ za).length < zc.length by omega), hcast]
    obtain ⟨zd, hzd⟩ : ∃ zd, zd = zc.modify (zs ++ za).length (setD ((zs.length + (c1.code 0).length + 1 + (v.code 0).length + 1 : Nat) : Int)) := ⟨_, rfl⟩
    have hzdl : zd.length = zc.length := by rw [hzd, List.length_modify]
    rw [← hzd, ← hzdl]
    have hcapn := hirow.le
    rw [hpl] at hcapn
    (repeat' (first|refine zza ?_|refine zc9 ?_|refine zzb fun w hw => ?_|refine zzh fun _ => ?_|refine zzi fun _ _ => ?_))
    refine WL_op rfl rfl (y_lo2 rfl rfl (by omega) hcapn) ?_
    rw [show nn - 2 = r2.len by omega]
    have hrowN := (hirow.mono (Rd.le_trans hGa.1 hGb.1)).drop2 (by omega)
    rw [hdr] at hrowN
    have hCN : zd.map InsM.ins ++ r2.func H zd.length = C := by
      rw [hzdl, hzcl, ← hiC, hzd, ins_patch, hzc, hzb]
      unfold patch
      rw [show (zs ++ za ++ [(⟨9, 0, 0, 0, 0, 0, ⟨none, 0, []⟩, []⟩ : InsM)] ++ zv ++ [(⟨11, 0, 0, 0, 0, 0, ⟨none, 0, []⟩, []⟩ : InsM)]) = (zs ++ za) ++ (⟨9, 0, 0, 0, 0, 0, ⟨none, 0, []⟩, []⟩ : InsM) :: (zv ++ [(⟨11, 0, 0, 0, 0, 0, ⟨none, 0, []⟩, []⟩ : InsM)]) by simp]
      rw [List.map_append, List.map_cons, show (zs ++ za).length = ((zs ++ za).map InsM.ins).length by simp, modify_mid]
      simp only [List.map_append, hza, hzv, Exs.func, List.map_cons, List.map_nil]
      simp [setTo, testI, retI, InsM.ins]
    have hWN : (wb ++ v.waits zb.length (kp + c1.flat.length)) ++ r2.funcW zd.length (kp + c1.flat.length + v.flat.length) = WQ := by
      rw [← hiW, hwb, hzdl, hzcl, hzbl]
      simp [Exs.funcW]
    have hGN : ∀ y ∈ zd, InsG Gb y := by
      rw [hzd]
      refine insG_modify fun y hy => ?_
      rw [hzc, hzb] at hy
      simp only [List.mem_append, List.mem_singleton] at hy
      rcases hy with (((hy | hy) | hy) | hy) | hy
      · exact (hiG y hy).mono (Rd.le_trans hGa.1 hGb.1)
      · exact (hzaG y hy).mono hGb.1
      · rw [hy]; exact ⟨by simp, Row.nil _ _ _, by simp⟩
      · exact hzvG y hy
      · rw [hy]; exact ⟨by simp, Row.nil _ _ _, by simp⟩
    (repeat' (first|refine zza ?_|refine zc9 ?_|refine zzb fun w hw => ?_|refine zzh fun _ => ?_|refine zzi fun _ _ => ?_))
    refine EX_loop' (Gb, zd, z2, qb, r2, kp + c1.flat.length + v.flat.length, a.add 2, cap - 2, wb ++ v.waits zb.length (kp + c1.flat.length)) ⟨zcov, ?_, by dsimp only [Exs.len]; omega, hokr, by dsimp only; simp only [Exs.len] at hiodd; omega, hrowN, hL3, hCN, hWN, hGN, Rd.grow_tr higr (Rd.grow_tr hGa hGb), ?_, ?_⟩
    · dsimp only
      exact zent
    · dsimp only; rw [hzdl, hzcl]; omega
    · dsimp only; rw [List.length_append]; omega
end Go.Proofs.YtngeooflfkpikaaGreatDoor
namespace Go.Proofs.YtngeooflfkpikaaGreatDoor
open Go.RowKit
/-- where a line's expression begins -/
def startL (t : Option Nod × Ex) : Nat := if t.1.isSome then 1 else 0
/-- what Compile tells -/
def CompPost (L : List NodM) (w : World) (e : Ending) (w' : World) : Prop :=
  (∃ z : Rd × List InsM × (Option Addr × Nat) × (Option Nod × Ex), (treeG (L.map NodM.nod) = some z.2.2.2 ∧ L.length ≤ 400 ∧ z.2.1.map InsM.ins = compC (startL z.2.2.2) z.2.2.2.2 ∧ (∀ x ∈ z.2.1, InsG z.1 x) ∧ Row insE 8 z.1 z.2.2.1.1 z.2.2.1.2 z.2.1) ∧ e = .returned (.tuple #[.slice z.2.2.1.1 z.2.1.length z.2.2.1.2, .nilIface]) ∧ Rd.grow w w.cell? z.1 ∧ Holds w [] [ro w [] z.1] w') ∨
  (treeF (L.map NodM.nod) ≠ 0 ∧ e = .returned (.tuple #[.slice none 0 0, errV 24 (treeF (L.map NodM.nod))]) ∧ Below w.heap.size w w')
/-- a tree, taken apart -/
theorem treeG_some {l : List Nod} {t : Option Nod × Ex} (h : treeG l = some t) : ∃ n r, l = n :: r ∧ t.2.ok 0 ∧ l.drop (startL t) = t.2.flat ∧ ((t.1 = some n ∧ n.op = 9 ∧ rightN n = true ∧ r = t.2.flat) ∨ (t.1 = none ∧ n.op ≠ 9 ∧ l = t.2.flat)) := by
  cases l with
  | nil => cases h
  | cons n r =>
    refine ⟨n, r, rfl, ?_⟩
    unfold treeG at h
    simp only at h
    by_cases h9 : n.op = 9 ∧ rightN n = true
    · rw [if_pos h9] at h
      cases hx : exF 0 r with
      | none => rw [hx] at h; cases h
      | some y =>
        obtain ⟨e, r'⟩ := y
        rw [hx] at h
        cases r' with
        | cons _ _ => cases h
        | nil =>
          injection h with h
          subst h
          obtain ⟨h1, h2⟩ := exF_iff.1 hx
          rw [List.append_nil] at h2
          exact ⟨h1, by simp [startL, h2], .inl ⟨rfl, h9.1, h9.2, h2⟩⟩
    · rw [if_neg h9] at h
      cases hx : exF 0 (n :: r) with
      | none => rw [hx] at h; cases h
      | some y =>
        obtain ⟨e, r'⟩ := y
        rw [hx] at h
        cases r' with
        | cons _ _ => cases h
        | nil =>
          injection h with h
          subst h
          obtain ⟨h1, h2⟩ := exF_iff.1 hx
          rw [List.append_nil] at h2
          refine ⟨h1, by simp [startL, h2], .inr ⟨rfl, fun ho => ?_, h2⟩⟩
          have hop : ∀ {e : Ex} {d : Nat}, e.ok d → ∀ {m t}, e.flat = m :: t → m.op ≠ 9 := fun {e d} hk {m t} hf => by
            obtain ⟨s1, s2, s3, _⟩ := Ex.subs_n hk
            rw [e.flat_subs] at hf
            injection hf with hf _
            rw [hf] at s3
            omega
          exact hop h1 h2.symm ho
set_option maxHeartbeats 8000000 in
set_option maxRecDepth 100000 in
theorem code_Compile (p : Option Addr) (c : Nat) (L : List NodM) (u0 : World) (hR : Row nodE 7 u0.cell? p c L) (hB : ∀ x ∈ L, NodG u0.cell? x)
    (hT : ∀ W : World, Below u0.heap.size u0 W → Calls Tryz.prog 15 #[.slice p L.length c] W fun e w' => e = .returned (errV 24 (treeF (L.map NodM.nod))) ∧ Below W.heap.size W w') :
    Calls Tryz.prog 8 #[.slice p L.length c] u0 (CompPost L u0) := by
  refine enterR (G := u0.cell?) (args := [_]) (m := []) (F := []) (Rd.sub_cell u0) rfl Tryz.func8 rfl Tryz.ntmps8 (by simp) ?_
  obtain ⟨f, hf⟩ : ∃ f, f = treeF (L.map NodM.nod) := ⟨_, rfl⟩
  by_cases hf0 : f = 0
  · subst hf0
    rw [← hf, errV_zero] at hT
    (repeat' (first|refine zza ?_|refine zc9 ?_|refine zzb fun w hw => ?_|refine zzh fun _ => ?_|refine zzi fun _ _ => ?_|refine zv1 ?_|refine zv2 ?_|refine zzj (fun _ => ?_) fun _ => ?_))
    (apply WL_callV; rfl; rfl; rfl; (intro W hW; exact hT W hW.below))
    have h400 : L.length ≤ 400 := by
      unfold treeF at hf
      rw [List.length_map] at hf
      split at hf
      · cases hf
      · omega
    obtain ⟨t, ht⟩ : ∃ t, treeG (L.map NodM.nod) = some t := by
      unfold treeF at hf
      rw [List.length_map, if_neg (by omega)] at hf
      cases hx : treeG (L.map NodM.nod) with
      | none => rw [hx] at hf; cases hf
      | some t => exact ⟨t, rfl⟩
    obtain ⟨n, r, hnr, hok, hdr, hcase⟩ := treeG_some ht
    have hpos : 0 < L.length := by have := congrArg List.length hnr; simp at this; omega
    clear hT
    (repeat' (first|refine zza ?_|refine zc9 ?_|refine zzb fun w hw => ?_|refine zzh fun _ => ?_|refine zzi fun _ _ => ?_|refine zv1 ?_|refine zv2 ?_|refine zzj (fun _ => ?_) fun _ => ?_))
    rename_i b5
    refine CW_ent (m' := [ro u0 [] u0.cell?, mkr b5 p L.length c (none, 0, 0) (none, 0, 0) 0, outS (none, 0, 0) [], sq 84 3 none 0 0 []]) (Ent.cons (.there .here) (Ent.consK (k := Ent.nilown (Ent.nilsq Ent.nil)) .here)) ?_
    obtain ⟨x0, hx0⟩ : ∃ x0, L[0]? = some x0 := ⟨L[0], by simp [hpos]⟩
    have hx0n : x0.nod = n := by
      have := congrArg (fun l => l[0]?) hnr
      simp only [List.getElem?_map, hx0, Option.map_some, List.getElem?_cons_zero] at this
      injection this
    have hsl : startL t + t.2.flat.length = L.length := by
      have := congrArg List.length hdr
      rw [List.length_drop, List.length_map] at this
      have := t.2.flat_pos
      omega
    have hdr' : (L.drop (startL t)).map NodM.nod = t.2.flat ++ [] := by rw [List.map_drop, hdr, List.append_nil]
    have hcle := t.2.code_le
    have hwle := t.2.waits_le 0 (startL t)
    have htl := Ex.tot_le t.2 0 hok
    have htc := Ex.tot_code t.2 0 (startL t)
    refine CW_cutK (X := Rd × List InsM × (Option Addr × Nat) × (Option Addr × Nat)) [(0,_),(5,_)] zcov (fun _ => []) (fun z => ro u0 [] z.1 :: mkS b5 p L.length c 0 z.2.2.1 z.2.1 z.2.2.2 (t.2.waits 0 (startL t))) (fun z => (z.2.1.map InsM.ins = t.2.code 0 ∧ ∀ x ∈ z.2.1, InsG z.1 x) ∧ Rd.grow u0 u0.cell? z.1) (fun _ => ?_) ?_
    · have hexp := fun (W : World) (f1 : List Nat) (hO : Own (mkS b5 p L.length c 0 (none, 0) [] (none, 0) []) f1 W) (hS : Rd.sub u0.cell? f1 W) => code_expression p c L h400 _ t.2 (startL t) 0 b5 [] 0 (none, 0) (none, 0) [] [] u0.cell? W f1 (Nat.le_refl _) hok hdr' hR hB hO hS ⟨by simp; omega⟩ ⟨by simp; omega⟩
      (repeat' (first|refine zza ?_|refine zc9 ?_|refine zzb fun w hw => ?_|refine zzh fun _ => ?_|refine zzi fun _ _ => ?_))
      rcases hcase with ⟨h1, h2, h3, h4⟩ | ⟨h1, h2, h3⟩
      · have hst : startL t = 1 := by unfold startL; rw [h1]; rfl
        rw [hst] at hexp
        have hop : x0.op = 9 := by rw [← hx0n] at h2; exact h2
        rw [hst]
        (repeat' (first|refine zza ?_|refine zc9 ?_|refine zzb fun w hw => ?_|refine zzh fun _ => ?_|refine zzi fun _ _ => ?_|refine zv1 ?_|refine zv2 ?_|refine zzj (fun _ => ?_) fun _ => ?_))
        refine WL_callG (m1 := mkS b5 p L.length c 0 (none, 0) [] (none, 0) []) (r := []) (X := Rd × List InsM × (Option Addr × Nat) × (Option Addr × Nat)) (V := fun _ => .tuple #[]) (Gx := fun z => z.1) (M := fun z => mkS b5 p L.length c 0 z.2.2.1 ([] ++ z.2.1) z.2.2.2 ([] ++ t.2.waits 0 1)) (I := fun z => z.2.1.map InsM.ins = t.2.code 0 ∧ ∀ x ∈ z.2.1, InsG z.1 x) zent rfl rfl rfl (fun W fp' hW hO hS hF => hexp W fp' hO hS) ?_
        rintro ⟨G1, zs, o1, q1⟩ ⟨hz, hzG⟩ hgr
        dsimp only at hz hzG hgr ⊢
        (repeat' (first|refine zza ?_|refine zc9 ?_|refine zzb fun w hw => ?_|refine zzh fun _ => ?_|refine zzi fun _ _ => ?_|refine zv1 ?_|refine zv2 ?_|refine zzj (fun _ => ?_) fun _ => ?_))
        exact EX_mid' (G1, zs, o1, q1) ⟨zcov, zent, ⟨hz, hzG⟩, hgr⟩
      · have hst : startL t = 0 := by unfold startL; rw [h1]; rfl
        rw [hst] at hexp
        have hop : ¬ x0.op = 9 := by rw [← hx0n] at h2; exact h2
        rw [hst]
        (repeat' (first|refine zza ?_|refine zc9 ?_|refine zzb fun w hw => ?_|refine zzh fun _ => ?_|refine zzi fun _ _ => ?_|refine zv1 ?_|refine zv2 ?_|refine zzj (fun _ => ?_) fun _ => ?_))
        refine WL_callG (m1 := mkS b5 p L.length c 0 (none, 0) [] (none, 0) []) (r := []) (X := Rd × List InsM × (Option Addr × Nat) × (Option Addr × Nat)) (V := fun _ => .tuple #[]) (Gx := fun z => z.1) (M := fun z => mkS b5 p L.length c 0 z.2.2.1 ([] ++ z.2.1) z.2.2.2 ([] ++ t.2.waits 0 0)) (I := fun z => z.2.1.map InsM.ins = t.2.code 0 ∧ ∀ x ∈ z.2.1, InsG z.1 x) zent rfl rfl rfl (fun W fp' hW hO hS hF => hexp W fp' hO hS) ?_
        rintro ⟨G1, zs, o1, q1⟩ ⟨hz, hzG⟩ hgr
        dsimp only at hz hzG hgr ⊢
        (repeat' (first|refine zza ?_|refine zc9 ?_|refine zzb fun w hw => ?_|refine zzh fun _ => ?_|refine zzi fun _ _ => ?_|refine zv1 ?_|refine zv2 ?_|refine zzj (fun _ => ?_) fun _ => ?_))
        exact EX_mid' (G1, zs, o1, q1) ⟨zcov, zent, ⟨hz, hzG⟩, hgr⟩
    rintro ⟨G1, zs, o1, q1⟩ ⟨⟨hz, hzG⟩, hgr⟩
    dsimp only at hz hzG hgr ⊢
    have hzl : zs.length = (t.2.code 0).length := by rw [← List.length_map (f := InsM.ins), hz]
    obtain ⟨wq, hwq⟩ : ∃ wq, wq = t.2.waits 0 (startL t) := ⟨_, rfl⟩
    rw [← hwq]
    (repeat' (first|refine zza ?_|refine zc9 ?_|refine zzb fun w hw => ?_|refine zzh fun _ => ?_|refine zzi fun _ _ => ?_|refine zv1 ?_|refine zv2 ?_|refine zzj (fun _ => ?_) fun _ => ?_))
    refine WL_callUX (m1 := [mkr b5 p L.length c (o1.1, zs.length, o1.2) (q1.1, wq.length, q1.2) 0, outS (o1.1, zs.length, o1.2) zs]) (r := [queS q1 wq]) zent rfl rfl rfl (fun W fp' hO hS => code_put G1 b5 p L.length c o1 (q1.1, wq.length, q1.2) 0 zs ⟨11, 0, 0, 0, 0, 0, ⟨none, 0, []⟩, []⟩ W fp' hO hS (by omega)) ?_
    rintro z _
    (repeat' (first|refine zza ?_|refine zc9 ?_|refine zzb fun w hw => ?_|refine zzh fun _ => ?_|refine zzi fun _ _ => ?_))
    obtain ⟨zs1, hzs1⟩ : ∃ zs1, zs1 = zs ++ [(⟨11, 0, 0, 0, 0, 0, ⟨none, 0, []⟩, []⟩ : InsM)] := ⟨_, rfl⟩
    have hz1m : zs1.map InsM.ins = t.2.code 0 ++ [retI] := by rw [hzs1, List.map_append, hz]; rfl
    have hz1G : ∀ x ∈ zs1, InsG G1 x := fun x hx => by
      rw [hzs1] at hx
      rcases List.mem_append.1 hx with hx | hx
      · exact hzG x hx
      · rw [List.mem_singleton.1 hx]; exact ⟨by simp, Row.nil _ _ _, by simp⟩
    have hz1l : zs1.length = (t.2.code 0).length + 1 := by rw [hzs1, List.length_append, hzl]; rfl
    rw [← hzs1]
    obtain ⟨C, hC⟩ : ∃ C, C = compC (startL t) t.2 := ⟨_, rfl⟩
    have hat : ∀ u ∈ wq, WAt (L.map NodM.nod) zs1.length u := fun u hu => by
      rw [hwq] at hu
      have := Ex.waits_at (l := L.map NodM.nod) t.2 0 0 (startL t) [] hok (by rw [hdr, List.append_nil]) u hu
      exact this.mono (by omega)
    have hwT : zs1.length + waitT wq ≤ 801 := by rw [hwq]; omega
    refine CW_loopK (X := Rd × List InsM × (Option Addr × Nat) × (Option Addr × Nat) × List Wt × Nat × Int) [(5,_)] zcov (fun _ => []) (fun z => ro u0 [] z.1 :: mkS b5 p L.length c z.2.2.2.2.2.2 z.2.2.1 z.2.1 z.2.2.2.1 z.2.2.2.2.1) (fun z => ((roundsC z.2.2.2.2.2.1 (z.2.1.map InsM.ins) z.2.2.2.2.1).1 = C ∧ waitN z.2.2.2.2.1 ≤ z.2.2.2.2.2.1) ∧ (∀ u ∈ z.2.2.2.2.1, WAt (L.map NodM.nod) z.2.1.length u) ∧ (∀ x ∈ z.2.1, InsG z.1 x) ∧ Rd.grow u0 u0.cell? z.1 ∧ z.2.1.length + waitT z.2.2.2.2.1 ≤ 801) (fun z => z.2.2.2.2.2.1) (G1, zs1, z, q1, wq, t.2.dfns, 0) ⟨⟨by rw [hC]; unfold compC; dsimp only; rw [hz1m, hwq], by dsimp only; rw [hwq]; exact Ex.waitN_le t.2 0 (startL t)⟩, hat, hz1G, hgr, hwT⟩ zcov zent ?_
    clear hz1m hz1G hat hwT hwq hzl hz hzG htc htl hwle hcle
    rintro ⟨Gi, zi, oi, qi, wi, fi, hi⟩ ⟨⟨hCi, hNi⟩, hai, hGi, hgi, hTi⟩
    dsimp only at hCi hNi hai hGi hgi hTi ⊢
    have hge := waitT_ge (q := wi) fun u hu => (hai u hu).1
    cases wi with
    | nil =>
      have hCf : zi.map InsM.ins = C := by
        cases fi with
        | zero => exact hCi
        | succ f => exact hCi
      clear hge hai
      (repeat' (first|refine zza ?_|refine zc9 ?_|refine zzb fun w hw => ?_|refine zzh fun _ => ?_|refine zzi fun _ _ => ?_|refine zv1 ?_|refine zv2 ?_|refine zzj (fun _ => ?_) fun _ => ?_))
      obtain ⟨G', g1, g2, g3⟩ := Holds.toRo (α := InsM) (enc := insE) (sz := 8) (fun _ => rfl) (by decide) (xs := zi) (e := 72) (n := zi.length) (p := oi.1) (c := oi.2) (r := []) (hw.ent (m' := [ro u0 [] Gi, sl 72 8 oi.1 zi.length oi.2 (zi.flatMap insE)]) zent) (fun f _ i hi => by cases hi)
      exact .inl ⟨(G', zi, oi, t), ⟨ht, h400, hCf.trans hC, fun x hx => (hGi x hx).mono g1.1, g2⟩, rfl, Rd.grow_tr hgi g1, g3⟩
    | cons wt wr =>
      obtain ⟨wb, wp, wn, wc⟩ := wt
      obtain ⟨⟨⟨d, hd⟩, hn0, hlen⟩, ⟨rest, hrest⟩, hcl⟩ := hai _ (List.mem_cons_self ..)
      dsimp only at hd hn0 hlen hrest hcl
      obtain ⟨N, rfl⟩ := Int.eq_ofNat_of_zero_le hn0
      have hlen' : wb.len = 2 * N + 1 := hlen
      have hN := Exs.waitN_func wb zi.length wp
      have htf := Exs.tot_func (zi.length : Int) wb zi.length wp
      have haf := Exs.funcW_at (l := L.map NodM.nod) (zi.length : Int) wb (d + 1) zi.length wp rest hd hrest
      have har : ∀ u ∈ wr, WAt (L.map NodM.nod) zi.length u := fun u hu => hai u (List.mem_cons_of_mem _ hu)
      simp only [List.length_cons, waitT, waitN] at hge hTi hNi
      obtain ⟨f, rfl⟩ : ∃ f, fi = f + 1 := ⟨fi - 1, by omega⟩
      have hCs : (roundsC f (stepC (zi.map InsM.ins) ⟨wb, wp, (N : Int), wc⟩ wr).1 (stepC (zi.map InsM.ins) ⟨wb, wp, (N : Int), wc⟩ wr).2).1 = C := hCi
      have hrest' : (L.drop wp).map NodM.nod = wb.flat ++ rest := by rw [List.map_drop]; exact hrest
      have hwr : wr.length ≤ 400000 := by omega
      clear hai hn0 hlen hrest hCi
      refine CW_ent (m' := [ro u0 [] Gi, mkr b5 p L.length c (oi.1, zi.length, oi.2) (qi.1, wr.length + 1, qi.2) hi, outS (oi.1, zi.length, oi.2) zi, sq 84 3 qi.1 (wr.length + 1) qi.2 (wtC ⟨wb, wp, (N : Int), wc⟩ ++ wr.flatMap wtC)]) zent ?_
      have hgt : ((wr.length + 1 : Nat) : Int) > 0 := by omega
      (repeat' (first|refine zza ?_|refine zc9 ?_|refine zzb fun w hw => ?_|refine zzh fun _ => ?_|refine zzi fun _ _ => ?_))
      refine WL_op rfl rfl (y_ixq (e := 84) (sz := 3) (i := 0) rfl rfl (.there (.there (.there .here))) (show 0 < wr.length + 1 by omega)) ?_
      refine WL_op rfl rfl (y_loadA (zs := [.int .i64 0, .int .i64 0, .int .i64 0]) rfl (show RdC _ _ (addrAt qi.1 (0 * 3)) (wtC ⟨wb, wp, (N : Int), wc⟩) from rd_sq (i := 0) (j := 0) (e := 84) (sz := 3) (.there (.there (.there .here))) rfl (show 0 * 3 + 0 + (wtC ⟨wb, wp, (N : Int), wc⟩).length ≤ (wr.length + 1) * 3 by simp [wtC]; omega)) rfl) ?_
      (repeat' (first|refine zza ?_|refine zc9 ?_|refine zzb fun w hw => ?_|refine zzh fun _ => ?_|refine zzi fun _ _ => ?_))
      rename_i b6
      refine WL_op rfl rfl (y_tail (n := wr.length) rfl rfl) ?_
      refine WL_ent (m' := [ro u0 [] Gi, mkr b5 p L.length c (oi.1, zi.length, oi.2) (qi.1, wr.length + 1, qi.2) hi, outS (oi.1, zi.length, oi.2) zi, sq 84 3 (tailP qi.1 qi.2 3) wr.length (qi.2 - 1) (wr.flatMap wtC), blk b6 84 #[.int .i64 (wp : Int), .int .i64 (N : Int), .int .i64 (wc : Int)]]) (Ent.cons zpk (Ent.cons zpk (Ent.cons zpk (Ent.tail (ys := wtC ⟨wb, wp, (N : Int), wc⟩) zpk rfl (Ent.consK (k := Ent.nil) .here))))) ?_
      (repeat' (first|refine zza ?_|refine zc9 ?_|refine zzb fun w hw => ?_|refine zzh fun _ => ?_|refine zzi fun _ _ => ?_|refine zv1 ?_|refine zv2 ?_|refine zzj (fun _ => ?_) fun _ => ?_))
      obtain ⟨qn, hqn⟩ : ∃ qn : Option Addr × Nat, qn = (tailP qi.1 qi.2 3, qi.2 - 1) := ⟨_, rfl⟩
      refine WL_ent (m' := ro u0 [] Gi :: (mkS b5 p L.length c hi oi zi qn wr ++ [blk b6 84 #[.int .i64 (wp : Int), .int .i64 (N : Int), .int .i64 (wc : Int)]])) (by rw [hqn]; exact zent) ?_
      refine WL_callG (m1 := mkS b5 p L.length c hi oi zi qn wr) (r := [blk b6 84 #[.int .i64 (wp : Int), .int .i64 (N : Int), .int .i64 (wc : Int)]]) (X := Rd × List InsM × (Option Addr × Nat) × (Option Addr × Nat)) (V := fun _ => .tuple #[]) (Gx := fun z => z.1) (M := fun z => mkS b5 p L.length c (zi.length : Int) z.2.2.1 z.2.1 z.2.2.2 (wr ++ wb.funcW zi.length wp)) (I := fun z => z.2.1.map InsM.ins = patch (zi.map InsM.ins) wc (zi.length : Int) ++ wb.func (zi.length : Int) zi.length ∧ ∀ x ∈ z.2.1, InsG z.1 x) zent rfl rfl rfl (fun W fp' hW hO hS hF => code_function p c L h400 wb wp (d + 1) b5 wc N rest hi oi qn zi wr Gi W fp' hd hlen' hrest' hcl (hR.mono hgi.1) (fun x hx => (hB x hx).mono hgi.1) hGi hO hS (by omega) hwr) ?_
      rintro ⟨Gn, zn, on, qm⟩ ⟨hzn, hznG⟩ hgn
      dsimp only at hzn hznG hgn ⊢
      have hznl : zn.length = zi.length + (wb.func (zi.length : Int) zi.length).length := by
        rw [← List.length_map (f := InsM.ins), hzn, List.length_append, patch_len, List.length_map]
      (repeat' (first|refine zza ?_|refine zc9 ?_|refine zzb fun w hw => ?_|refine zzh fun _ => ?_|refine zzi fun _ _ => ?_|refine zv1 ?_|refine zv2 ?_|refine zzj (fun _ => ?_) fun _ => ?_))
      refine EX_loop' (Gn, zn, on, qm, wr ++ wb.funcW zi.length wp, f, (zi.length : Int)) ⟨zcov, zent, by dsimp only; omega, ⟨?_, ?_⟩, fun u hu => ?_, hznG, Rd.grow_tr hgi hgn, ?_⟩
      · dsimp only
        rw [hzn]
        have : stepC (zi.map InsM.ins) ⟨wb, wp, (N : Int), wc⟩ wr = (patch (zi.map InsM.ins) wc (zi.length : Int) ++ wb.func (zi.length : Int) zi.length, wr ++ wb.funcW zi.length wp) := by simp [stepC]
        rw [this] at hCs
        exact hCs
      · dsimp only; rw [waitN_app]; omega
      · dsimp only
        rw [hznl]
        rcases List.mem_append.1 hu with hu | hu
        · exact (har u hu).mono (by omega)
        · exact haf u hu
      · dsimp only; rw [waitT_app, hznl]; omega
  · have hne : errV 24 f = .iface 24 (.int .i64 f) := errV_ne hf0
    rw [← hf, hne] at hT
    (repeat' (first|refine zza ?_|refine zc9 ?_|refine zzb fun w hw => ?_|refine zzh fun _ => ?_|refine zzi fun _ _ => ?_|refine zv1 ?_|refine zv2 ?_|refine zzj (fun _ => ?_) fun _ => ?_))
    (apply WL_callV; rfl; rfl; rfl; (intro W hW; exact hT W hW.below))
    clear hT
    (repeat' (first|refine zza ?_|refine zc9 ?_|refine zzb fun w hw => ?_|refine zzh fun _ => ?_|refine zzi fun _ _ => ?_|refine zv1 ?_|refine zv2 ?_|refine zzj (fun _ => ?_) fun _ => ?_))
    exact .inr ⟨by rw [← hf]; exact hf0, by rw [← hf, hne], hw.below⟩
end Go.Proofs.YtngeooflfkpikaaGreatDoor
namespace Go.Proofs.YtngeooflfkpikaaGreatDoor
open Go.RowKit
end Go.Proofs.YtngeooflfkpikaaGreatDoor
