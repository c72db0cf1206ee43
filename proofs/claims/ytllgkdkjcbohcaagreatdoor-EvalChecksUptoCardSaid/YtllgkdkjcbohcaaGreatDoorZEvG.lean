/-
  The logic of walks: two cells of a slice of the call's own turned, in a region that draws its order. Of no program.
  eval: an evaluation whole, where no name has a value.
-/
import Derived.Test.YtllgkdkjcbohcaaGreatDoorZGo
import Derived.Test.YtllgkdkjcbohcaaGreatDoorZPerm
import Derived.Test.YtllgkdkjcbohcaaGreatDoorZSpell
import Derived.Test.YtllgkdkjcbohcaaGreatDoorZDefer
import Derived.Test.YtllgkdkjcbohcaaGreatDoorZTree4
namespace Go.Proofs.YtllgkdkjcbohcaaGreatDoor
open Go.RowKit
section
variable {P : Program} {K : Cx} {ρ : Env} {m m0 r : List HP} {ty t e : TypeId} {pos : String} {aft : Array Edge} {g : Option (Nat × Bool)} {x y : Operand} {ops : Array Oper} {rest : List Nat} {L : Act → Cl → Prop}
  {k n c : Nat} {p : Option Addr} {xs : List Value} {v : Value} {listed : Array Bool} {E : List PanicEntry → World → Prop}
/-- one cell that no operation of a region turns, though the slice about it is turned -/
def cq (a : Addr) (v : Value) : HP where
  p w fp := fp = [a.block] ∧ w.cell? a = some v
  st w w' fp h := by
    rintro ⟨rfl, hc⟩
    refine ⟨rfl, ?_⟩
    have h1 := h a.block (by simp)
    unfold World.cell? at hc ⊢
    rw [h1]
    exact hc
  lt w fp := by
    rintro ⟨rfl, hc⟩ i hi
    have : i = a.block := by simpa using hi
    subst this
    refine Nat.lt_of_not_le fun hle => ?_
    unfold World.cell? at hc
    rw [Array.getElem?_eq_none hle] at hc
    cases hc
theorem sl_at {w : World} {fp : List Nat} {i : Nat} (h : (sl e 1 p n c xs).p w fp) (hi : i < n) : ∃ gg, p = some ⟨gg, 0, none⟩ ∧ addrAt p (i * 1) = ⟨gg, i, none⟩ ∧ addrAt p i = ⟨gg, i, none⟩ ∧ fp = [gg] ∧ xs.length = n ∧ w.cell? ⟨gg, i, none⟩ = xs[i]? := by
  obtain ⟨hfp, hown⟩ := h
  obtain ⟨gg, rfl⟩ : ∃ gg, p = some ⟨gg, 0, none⟩ := by
    rcases hown.2 with ⟨hv, h0⟩ | ⟨g, cap, cur, hv, _⟩
    · omega
    · simp only [Value.slice.injEq] at hv; exact ⟨g, hv.1⟩
  have ha : addrAt (some ⟨gg, 0, none⟩) i = ⟨gg, i, none⟩ := by unfold addrAt; show (⟨gg, 0, none⟩ : Addr).add i = _; unfold Addr.add; split <;> simp [*]
  exact ⟨gg, rfl, by rw [Nat.mul_one, ha], ha, hfp, by have := hown.1; omega, hown.cellAt i (by omega)⟩
theorem Ent.cq {m' : List HP} {i : Nat} (hp : Pick m (sl e 1 p n c xs) r) (hi : xs[i]? = some v) (hin : i < n) (kk : Ent r m') : Ent m (cq (addrAt p (i * 1)) v :: m') := fun fp w ho => by
  obtain ⟨f1, f2, he, hs1, k2, kd⟩ := hp.own ho
  obtain ⟨f3, h3, hs⟩ := kk f2 w k2
  obtain ⟨gg, rfl, ha, _, rfl, hl, hc⟩ := sl_at hs1 hin
  refine ⟨[gg] ++ f3, ⟨[gg], f3, rfl, ⟨by rw [ha], by rw [ha, hc]; exact hi⟩, h3, fun i hi h => kd i hi (hs i h)⟩, fun i hi => ?_⟩
  rcases List.mem_append.1 hi with hi | hi
  · exact (he i).2 (.inl hi)
  · exact (he i).2 (.inr (hs i hi))
/-- an operation that yields a value, where nothing else can come -/
theorem WP_opS {d : Nat} {op : Op} (hk : ops[k]? = some ⟨some d, op, ty, pos, aft, g⟩) (hso : soleB .any ops listed k = true) (hy : Yi P K ρ m ⟨some d, op, ty, pos, aft, g⟩ v) (hr : ∃ pm, Ent m (pm ++ m0))
    (hg : guardB ops g ρ = some true) (hn : (guardN K.N ops g && Nat.blt d K.N) = true) (k' : WP P K E ops L m0 rest (listed.setIfInBounds k true) ((d, v) :: ρ) m) :
    WP P K E ops L m0 (k :: rest) listed ρ m := by
  refine ⟨fun a hf => ?_⟩
  simp only [Bool.and_eq_true] at hn
  unfold wpHeadP
  rw [hk]
  simp only
  unfold headP
  rw [if_pos (guard_wanted hf hg (guardN_spec hn.1))]
  obtain ⟨pm, hr⟩ := hr
  refine .inr ⟨hso, Unit, fun _ => v, fun _ => Holds K.w0 K.F m, fun _ => Holds.closed _ _ _, fun _ W hW => (hW.ent hr).drop, fun w hm => ?_, fun _ => k'.run _ (hf.put (blt_lt hn.2) _)⟩
  rw [hy.run a w hf hm]
  exact ⟨(), rfl, hm⟩
end
end Go.Proofs.YtllgkdkjcbohcaaGreatDoor
namespace Go.Proofs.YtllgkdkjcbohcaaGreatDoor
open Go.RowKit
section
variable {P : Program} {fs : List (Nat × Nat)} {zs : List Value}
theorem results_c3e {fn : Func} {t1 t2 t3 : Tmp} {T1 T2 T3 : TypeId} (hr : fn.results = #[.cell t1 T1, .cell t2 T2, .cell t3 T3]) [S1 : StT P T1 fs zs] [S2 : NAgg P T2] [S3 : NAgg P T3] {tmps : Array Value} {w : World} {b1 b2 b3 : Nat}
    (h1 : tmps.getD t1 undef = .pointer (some ⟨b1, 0, none⟩)) (h2 : tmps.getD t2 undef = .pointer (some ⟨b2, 0, none⟩)) (h3 : tmps.getD t3 undef = .pointer (some ⟨b3, 0, none⟩))
    {cs : List Value} {v2 v3 : Value} {U1 U2 U3 : TypeId} (hl : cs.length = zs.length) (c1 : w.heap[b1]? = some (.cells cs.toArray U1 (0, 0))) (c2 : w.heap[b2]? = some (.cells #[v2] U2 (0, 0))) (c3 : w.heap[b3]? = some (.cells #[v3] U3 (0, 0))) :
    (results fn tmps).run P w = .ok (.tuple #[.agg cs.toArray, v2, v3]) w := by
  have e2 : w.cell? ⟨b2, 0, none⟩ = some v2 := by simp [World.cell?, c2]
  have e3 : w.cell? ⟨b3, 0, none⟩ = some v3 := by simp [World.cell?, c3]
  have hc : ∀ (j : Nat) (v : Value), cs[j]? = some v → w.cell? ((⟨b1, 0, none⟩ : Addr).add j) = some v := fun j v hv => by
    have : (⟨b1, 0, none⟩ : Addr).add j = ⟨b1, j, none⟩ := by unfold Addr.add; split <;> simp_all
    rw [this]
    simp [World.cell?, c1, hv]
  have h0 := run_loadCells_list (P := P) (w := w) ⟨b1, 0, none⟩ cs hc
  rw [hl] at h0
  unfold loadCells at h0
  rw [Array.getD_eq_getD_getElem?] at h1 h2 h3
  simp [results, hr, h1, h2, h3, asAddr, loadVar, S1.agg, S1.size, S2.agg, S3.agg, e2, e3, h0, go_sem]
end
theorem enterDRe {P : Program} {f : FuncId} {fn : Func} {c : Code} {args : List Value} {w : World} {F : List Nat} {R : Ending → World → Prop} {N : Nat} {m : List HP} {G : Rd} (hs : Rd.sub G F w) (hm : Own m F w) (hf : P.funcs[f]? = some fn) (hb : fn.body = some c) (hN : fn.ntmps = N) (hl : args.length ≤ N)
    (h : CW P ⟨N, [], w, F⟩ (QBodyD P fn R) c (argEnv 0 args) (ro w F G :: m)) : Calls P f args.toArray w R :=
  enterD (m := ro w F G :: m) (F := F) hf hb hN hl ⟨[], F, rfl, ⟨by simp, fun a v e => .inr ⟨cell_lt (hs a v e).1, (hs a v e).2, (hs a v e).1⟩⟩, hm, by simp⟩ h
abbrev voV (z : ArrM × Int × Int) : Value := .tuple #[arrV z.1, .int .i64 z.2.1, errV 49 z.2.2]
/-- what an evaluation tells: a value and what fuel is left, or an error -/
def VOut (res : Res) (z : ArrM × Int × Int) (G : Rd) : Prop := ((res = .ok z.1.arr z.2.1 ∧ z.2.2 = 0) ∨ (res = .err z.2.2 ∧ z.2.2 ≠ 0 ∧ z.1 = zeroM ∧ z.2.1 = 0)) ∧ ArrG G z.1
abbrev noEnv : Names := fun _ => none
theorem ne_mv {w : World} {be bm : Nat} {f : Int} {ks : List (List UInt8 × Value)} {fp : List Nat} (h : Own [evs be bm f] fp w) (hm : MapVAt w bm ks) : bm ≠ be := fun e => by
  obtain ⟨f1, f2, _, ⟨_, hb⟩, _⟩ := h
  subst e
  unfold MapVAt at hm
  rw [hm] at hb
  cases hb
set_option maxHeartbeats 16000000 in
set_option maxRecDepth 100000 in
theorem eval_valueOf0 (Pm : Prims) (p : Option Addr) (c : Nat) (L : List NodM) (N : Nat) (hV : ValC Pm p c L [] noEnv 50 N) (e : Ex) (hN : e.flat.length ≤ N) (hk : L.map NodM.nod = e.flat) (hok : e.ok 0) (fu : Int) (hI : I64 fu) (G : Rd) (w : World) (hS : Rd.le G w.cell?) (hSit : Sit p c L [] noEnv G)
    (hB : ∀ v l, evX Pm noEnv (runD Pm noEnv 50) .nil none zeroAr e fu = .ok v l → v.shape.length ≤ 4294967280 ∧ v.data.length ≤ 4294967280) :
    Calls Tryz.prog 49 #[.slice none 0 0, .slice p L.length c, .int .i64 fu] w (Tells voV (VOut (valueR Pm noEnv e fu)) G w) := by
  refine enterDRe (args := [_, _, _]) (m := []) (F := []) hS.sub rfl Tryz.func49 rfl Tryz.ntmps49 (by simp) ?_
  have hval : ∀ (be bm : Nat) (W : World) (fp' : List Nat), Own [evs be bm fu] fp' W → Rd.sub G fp' W → MapVAt W bm [] → Calls Tryz.prog 92 #[ctxV ⟨none, 0, 0, 0, 0, none, zeroM, 0⟩ be, .slice p L.length c, .int .i64 ((0 : Nat) : Int)] W (EGot be bm (evX Pm noEnv (runD Pm noEnv 50) .nil none zeroAr e fu) G W fp') :=
    fun be bm W fp' hO hSb hM => hV e 0 0 [] ⟨none, 0, 0, 0, 0, none, zeroM, 0⟩ .nil none zeroAr be bm fu G W fp' hN hok (by rw [List.drop_zero, hk, List.append_nil]) rfl
      ⟨fun h => absurd h (by omega), rfl, ArrG.zero G, rfl, fun h => absurd h (by omega)⟩ hSit hM (ne_mv hO hM) hI hO hSb
  have hSb : Rd.sub G [] w := hS.sub
  unfold valueR
  generalize evX Pm noEnv (runD Pm noEnv 50) .nil none zeroAr e fu = Z at *
  clear hV hN hk hok hSit hS
  ((repeat' (first|refine zza ?_|refine zc9 ?_|refine zzb fun w hw => ?_|refine zzh fun _ => ?_|refine zzi fun _ _ => ?_|refine zzj (fun _ => ?_) fun _ => ?_)); (repeat' (refine CW_seq ?_; (repeat' (first|refine zza ?_|refine zc9 ?_|refine zzb fun w hw => ?_|refine zzh fun _ => ?_|refine zzi fun _ _ => ?_|refine zzj (fun _ => ?_) fun _ => ?_)))))
  rename_i b6 b7 b8
  apply WL_op rfl rfl (y_makeFunc rfl)
  refine WL_defer rfl rfl rfl ?_
  have hpan : ∀ (ρ : Env) (m : List HP) (v6 : ArrM) (v7 : Int) (v8 : Value) (c : Int), ρ.find 6 = some (ptrV b6) → ρ.find 7 = some (ptrV b7) → ρ.find 8 = some (ptrV b8) → Ent m (resB b6 b7 b8 v6 v7 v8) → (Z.bind fun v f => stepR f (Res.ok v)) = .err c → c ≠ 0 →
      EX (⟨44, [{ target := .fn (.func 91) #[ptrV b6, ptrV b7, ptrV b8], args := #[] }], w, []⟩ : Cx) (QBodyD Tryz.prog Tryz.f49 (Tells voV (VOut (Z.bind fun v f => stepR f (Res.ok v))) G w)) (.panic (errE c)) ρ m := by
    intro ρ m v6 v7 v8 c h6 h7 h8 he hz h0
    refine EX_panD1 rfl fun a' w' hf hm => ?_
    obtain ⟨fp, ho, hth⟩ := (hm.ent he).allT
    refine (vcatch b6 b7 b8 _ _ _ c w' fp ho).mono ?_
    rintro e u w2 ⟨rfl, hh⟩
    obtain ⟨rfl, hh⟩ := hh
    have hm2 := hth _ _ hh
    refine ⟨_, rfl, rfl, _, results_c3e rfl (hf.get 6 _ h6) (hf.get 7 _ h7) (hf.get 8 _ h8) (by rfl) (hm2.blk .here) (hm2.blk (.there .here)) (hm2.blk (.there (.there .here))), ?_⟩
    exact ⟨(zeroM, 0, c), G, ⟨.inr ⟨hz, h0, rfl, rfl⟩, ArrG.zero G⟩, by show _ = Ending.returned (.tuple #[arrV zeroM, .int .i64 0, errV 49 c]); rw [errV_ne h0]; rfl, Rd.grow_refl _ _, (Holds.roAddE hSb hm2).ent (Ent.cons .here Ent.nil)⟩
  ((repeat' (first|refine zza ?_|refine zc9 ?_|refine zzb fun w hw => ?_|refine zzh fun _ => ?_|refine zzi fun _ _ => ?_|refine zzj (fun _ => ?_) fun _ => ?_)); (repeat' (refine CW_seq ?_; (repeat' (first|refine zza ?_|refine zc9 ?_|refine zzb fun w hw => ?_|refine zzh fun _ => ?_|refine zzi fun _ _ => ?_|refine zzj (fun _ => ?_) fun _ => ?_)))))
  refine WL_makeMapV rfl rfl fun bm => ?_
  ((repeat' (first|refine zza ?_|refine zc9 ?_|refine zzb fun w hw => ?_|refine zzh fun _ => ?_|refine zzi fun _ _ => ?_|refine zzj (fun _ => ?_) fun _ => ?_)); (repeat' (refine CW_seq ?_; (repeat' (first|refine zza ?_|refine zc9 ?_|refine zzb fun w hw => ?_|refine zzh fun _ => ?_|refine zzi fun _ _ => ?_|refine zzj (fun _ => ?_) fun _ => ?_)))))
  rename_i be
  refine CW_loopK [(1,_),(6,_),(7,_),(8,_),(9,_),(17,_),(18,_)] zcov (fun i : Nat => [(19, .int .i64 (i : Int))]) (fun _ => [ro w [] G, evs be bm fu, mv bm [], zB b6, blk b7 3 #[.int .i64 0], blk b8 24 #[.nilIface]]) (fun i => i ≤ 0) (fun i => 0 - i) 0 (by omega) zcov (Ent.cons zpk (Ent.consK (k := zent) zpk)) ?_
  intro i hi
  obtain rfl : i = 0 := by omega
  ((repeat' (first|refine zza ?_|refine zc9 ?_|refine zzb fun w hw => ?_|refine zzh fun _ => ?_|refine zzi fun _ _ => ?_|refine zzj (fun _ => ?_) fun _ => ?_)); (repeat' (refine CW_seq ?_; (repeat' (first|refine zza ?_|refine zc9 ?_|refine zzb fun w hw => ?_|refine zzh fun _ => ?_|refine zzi fun _ _ => ?_|refine zzj (fun _ => ?_) fun _ => ?_)))))
  refine WL_callE (r := [mv bm [], zB b6, blk b7 3 #[.int .i64 0], blk b8 24 #[.nilIface]]) be bm fu Z (fun W fp' hW hO hSb _ => hval be bm W fp' hO hSb (hW.mv zpk)) ?_ ?_
  case refine_2 =>
    intro c' f' hr h0'
    clear hval
    ((repeat' (first|refine zza ?_|refine zc9 ?_|refine zzb fun w hw => ?_|refine zzh fun _ => ?_|refine zzi fun _ _ => ?_|refine zzj (fun _ => ?_) fun _ => ?_)); (repeat' (refine CW_seq ?_; (repeat' (first|refine zza ?_|refine zc9 ?_|refine zzb fun w hw => ?_|refine zzh fun _ => ?_|refine zzi fun _ _ => ?_|refine zzj (fun _ => ?_) fun _ => ?_)))))
    exact hpan _ _ zeroM 0 .nilIface c' rfl rfl rfl zent (by rw [hr]; rfl) h0'
  intro G1 v f1 hr hv h1 hI1 g1
  clear hval
  ((repeat' (first|refine zza ?_|refine zc9 ?_|refine zzb fun w hw => ?_|refine zzh fun _ => ?_|refine zzi fun _ _ => ?_|refine zu1 ?_|refine zu2 ?_|refine zu3 ?_|refine zu4 fun _ => ?_|refine zzj (fun _ => ?_) fun _ => ?_)); (repeat' (refine CW_seq ?_; (repeat' (first|refine zza ?_|refine zc9 ?_|refine zzb fun w hw => ?_|refine zzh fun _ => ?_|refine zzi fun _ _ => ?_|refine zu1 ?_|refine zu2 ?_|refine zu3 ?_|refine zu4 fun _ => ?_|refine zzj (fun _ => ?_) fun _ => ?_)))))
  have hstep := fun W fp' (hO : Own [evs be bm f1] fp' W) (hSb : Rd.sub G1 fp' W) => eval_step be bm f1 hI1 G1 W fp' hO hSb
  obtain ⟨q6, q7⟩ := hB v.arr f1 hr
  refine WL_callS (r := resB b6 b7 b8 v 0 .nilIface) be bm f1 hstep (fun hpos => ?_) (fun h0' => ?_)
  case refine_2 =>
    clear hstep
    ((repeat' (first|refine zza ?_|refine zc9 ?_|refine zzb fun w hw => ?_|refine zzh fun _ => ?_|refine zzi fun _ _ => ?_|refine zzj (fun _ => ?_) fun _ => ?_)); (repeat' (refine CW_seq ?_; (repeat' (first|refine zza ?_|refine zc9 ?_|refine zzb fun w hw => ?_|refine zzh fun _ => ?_|refine zzi fun _ _ => ?_|refine zzj (fun _ => ?_) fun _ => ?_)))))
    exact hpan _ _ v 0 .nilIface 8 rfl rfl rfl zent (by rw [hr]; simp only [Res.bind, stepR]; rw [if_pos h0']) (by decide)
  clear hstep hpan
  have hZ : (Z.bind fun v f => stepR f (Res.ok v)) = .ok v.arr (f1 - 1) := by
    rw [hr]
    simp only [Res.bind]
    rw [stepR_pos hpos]
  generalize (Z.bind fun v f => stepR f (Res.ok v)) = Z' at *
  clear hr hB
  (repeat' ((fail_if_success refine zc8 ?_); (first|refine zza ?_|refine zzb fun w hw => ?_|refine zzh fun _ => ?_|refine zzi fun _ _ => ?_|refine zzj (fun _ => ?_) fun _ => ?_)))
  (repeat' (refine CW_seq ?_; (repeat' ((fail_if_success refine zc8 ?_); (first|refine zza ?_|refine zzb fun w hw => ?_|refine zzh fun _ => ?_|refine zzi fun _ _ => ?_|refine zzj (fun _ => ?_) fun _ => ?_)))))
  refine CW_perm 7 [2, 3, 4, 5, 0, 1, 6] [evs be bm (f1 - 1), ro w [] G1] [] zcov (pm := [boxB b6 v, blk b7 3 #[.int .i64 0], blk b8 24 #[.nilIface]]) zent (by kernel_rfl) (by decide +kernel) (by kernel_rfl) ?_
  (refine WP_op rfl rfl rfl zyi ?_)
  (refine WP_op rfl rfl rfl zyi ?_)
  (refine WP_op rfl rfl rfl zyi ?_)
  (refine WP_op rfl rfl rfl zyi ?_)
  refine WP_opS rfl (by decide +kernel) (v := arrV v) (by apply y_loadA; rfl; exact rd_blk zpk rfl; rfl) ⟨[boxB b6 v, blk b7 3 #[.int .i64 0], blk b8 24 #[.nilIface]], zent⟩ rfl rfl ?_
  refine WP_callT (r := [evs be bm (f1 - 1), boxB b6 v, blk b7 3 #[.int .i64 0], blk b8 24 #[.nilIface]]) rfl zent (by kernel_rfl) rfl rfl rfl (fun W hS => eval_fresh v G1 W (fun a u e => (hS a u e).1) hv q6 q7) (fun G' hg => ⟨[boxB b6 v, blk b7 3 #[.int .i64 0], blk b8 24 #[.nilIface]], Ent.cons zpk (Ent.cons zpk (Ent.cons zpk (Ent.cons zpk (Ent.roLe hg.1 .here Ent.nil))))⟩) ?_
  rintro u G2 ⟨hu, huG⟩ g2
  refine WP_storeW (pm := [boxB b6 u, blk b7 3 #[.int .i64 0], blk b8 24 #[.nilIface]]) rfl (by decide +kernel) rfl rfl rfl zpk (Ent.cons .here (Ent.cons zpk (Ent.cons zpk (Ent.cons zpk (Ent.roLe g2.1 zpk Ent.nil))))) rfl rfl rfl rfl ?_
  refine WP_end ?_
  ((repeat' (first|refine zza ?_|refine zc9 ?_|refine zzb fun w hw => ?_|refine zzh fun _ => ?_|refine zzi fun _ _ => ?_|refine zu1 ?_|refine zu2 ?_|refine zu3 ?_|refine zu4 fun _ => ?_|refine zzj (fun _ => ?_) fun _ => ?_)); (repeat' (refine CW_seq ?_; (repeat' (first|refine zza ?_|refine zc9 ?_|refine zzb fun w hw => ?_|refine zzh fun _ => ?_|refine zzi fun _ _ => ?_|refine zu1 ?_|refine zu2 ?_|refine zu3 ?_|refine zu4 fun _ => ?_|refine zzj (fun _ => ?_) fun _ => ?_)))))
  refine EX_retD1 rfl fun a w' hf hm => (vcatch_idle b6 b7 b8 w').mono ?_
  rintro e' u2 w2 ⟨rfl, rfl, hb⟩
  have hm2 := hm.grow hb
  refine ⟨_, rfl, rfl, _, results_c3e (cs := arrE u) rfl (hf.get 6 _ rfl) (hf.get 7 _ rfl) (hf.get 8 _ rfl) (by rfl) (hm2.blk zpk) (hm2.blk zpk) (hm2.blk zpk), ?_⟩
  exact ⟨(u, f1 - 1, 0), G2, ⟨.inl ⟨by rw [hZ, hu], rfl⟩, huG⟩, by show _ = Ending.returned (.tuple #[arrV u, .int .i64 (f1 - 1), errV 49 0]); rw [errV_zero]; rfl, Rd.grow_tr g1 g2, hm2.ent (Ent.cons zpk Ent.nil)⟩
end Go.Proofs.YtllgkdkjcbohcaaGreatDoor
