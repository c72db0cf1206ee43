/-
  eval: an expression with a function: acted.
-/
import Derived.Test.YtllgkdkjcbohcaaGreatDoorZGo
import Derived.Test.YtllgkdkjcbohcaaGreatDoorZEvV
namespace Go.Proofs.YtllgkdkjcbohcaaGreatDoor
open Go.RowKit
theorem drop_left {l a b r : List Nod} {k : Nat} (h : l.drop k = a ++ b ++ r) : l.drop k = a ++ (b ++ r) := by rw [h, List.append_assoc]
theorem drop_len {l a r : List Nod} {k : Nat} (h : l.drop k = a ++ r) : l.drop (k + a.length) = r := by
  have := congrArg (List.drop a.length) h
  rw [List.drop_left, List.drop_drop] at this
  exact this
section
variable {P : Program} {K : Cx} {ρ : Env} {m r : List HP} {Q : Exit → Act → World → Prop} {ops : Array Oper} {rest : List Oper} {G : Rd}
/-- a box of the call's own may only be read from here on -/
theorem WL_rowF {α : Type} {enc : α → List Value} {sz b : Nat} {u : α} {T : TypeId} {cs : Array Value} {r r2 : List HP} (hs : ∀ x, (enc x).length = sz) (h0 : 0 < sz) (hF : ∀ fp w, Own r2 fp w → ∀ i ∈ K.F, i ∈ fp) (hp : Pick m (blk b T cs) r) (hp2 : Pick r (ro K.w0 K.F G) r2) (hc : cs = (enc u).toArray)
    (k : ∀ G', Rd.grow K.w0 G G' → Row enc sz G' (some ⟨b, 0, none⟩) 1 [u] → WL P K ops Q rest ρ (ro K.w0 K.F G' :: r2)) : WL P K ops Q rest ρ m := ⟨fun a w hf hm => by
  have h1 : Ent m (ro K.w0 K.F G :: sl T sz (some ⟨b, 0, none⟩) 1 1 ([u].flatMap enc) :: r2) := Ent.trans (Ent.cons hp (Ent.cons hp2 Ent.refl)) (Ent.cons (.there .here) (Ent.blkSlN (n := 1) (sz := sz) .here (by rw [hc, List.flatMap_cons, List.flatMap_nil, List.append_nil]) (by rw [List.flatMap_cons, List.flatMap_nil, List.append_nil, hs, Nat.one_mul]) (by decide) Ent.refl))
  obtain ⟨G', g', r', h'⟩ := Holds.toRo hs h0 (hm.ent h1) (fun fp ho => hF fp w ho)
  exact (k G' g' r').run a w hf h'⟩
end
theorem evs_F {be bm : Nat} {f : Int} {fp : List Nat} {r : List HP} (h : fp = [be]) : ∀ fp' (w : World), Own (evs be bm f :: r) fp' w → ∀ i ∈ fp, i ∈ fp' := fun f' w ho i hi => by
  obtain ⟨f1, f2, rfl, ⟨rfl, _⟩, _⟩ := ho
  rw [h] at hi
  exact List.mem_append_left _ hi
/-- what may be read, less of it -/
theorem Holds.roDown {w0 w : World} {F : List Nat} {G G' : Rd} {m : List HP} (h : Holds w0 F (ro w0 F G' :: m) w) (g : Rd.grow w0 G G') : Holds w0 F (ro w0 F G :: m) w := h.ent (Ent.roLe g.1 .here Ent.refl)
theorem Keep.holds0 {w w' : World} (h : Below w.heap.size w w') : Holds w [] [] w' := ⟨Keep.ofBelow h, [], rfl, by simp⟩
noncomputable abbrev acode : Code := (Tryz.f171.body).getD .skip
/-- the function that is called next, once its right argument is there -/
structure NextOk (p : Option Addr) (c : Nat) (L : List NodM) (G : Rd) (z0 : CtxM) (x : NodM) (b fn : Exs) (dd : Nat) : Prop where
  dfn : x.aop = 6 → ∀ (v : ArrM) (q : Option Addr) (al : Option Arr) (G' : Rd), Rd.le G G' → ArrG G' v → One1 v.arr → AlOk G' q al → CtxOk p c L G' { z0 with omega := v, alpha := q } b al v.arr (dd + 1)
  slf : x.aop = 7 → 0 < dd ∧ ∀ (v : ArrM) (q : Option Addr) (al : Option Arr) (G' : Rd), Rd.le G G' → ArrG G' v → One1 v.arr → AlOk G' q al → CtxOk p c L G' { z0 with omega := v, alpha := q } fn al v.arr dd
abbrev nodB (b : Nat) (x : NodM) : HP := blk b 32 (nodE x).toArray
set_option maxHeartbeats 16000000 in
set_option maxRecDepth 100000 in
theorem act_rest1 (Pm : Prims) (p : Option Addr) (c : Nat) (L : List NodM) (ks : List (List UInt8 × Value)) (env : Names) (D N : Nat) (hG : Given Pm L)
    (hV : ValC Pm p c L ks env D N) (hRun : (∃ y ∈ L, y.aop = 6 ∨ y.aop = 7) → RunC Pm p c L ks env D)
    (x : NodM) (hx : x ∈ L) (h6 : x.op = 6) (b : Exs) (r : Ex) (kr dd : Nat) (rest : List Nod) (z z0 : CtxM) (fn : Exs) (al : Option Arr) (om : Arr) (be bm b3 b6 b7 b11 : Nat) (fu : Int) (G : Rd) (w : World) (fp : List Nat) (_hfp : fp = [be]) (hN : r.flat.length ≤ N) (hok : r.ok dd) (hk : (L.map NodM.nod).drop kr = r.flat ++ rest) (hD : z.deep + D = 50)
    (hC : CtxOk p c L G z fn al om dd) (hS : Sit p c L ks env G) (hnm : ∀ W, Keep w fp W → MapVAt W bm ks) (hne : bm ≠ be) (hI : I64 fu) (h0 : NextOk p c L G z0 x b fn dd) (h0d : z0.deep = z.deep + 1) (h0a : z0.alpha = none) :
    CW Tryz.prog ⟨118, [], w, fp⟩ (QBody Tryz.prog Tryz.f171 (EGot be bm (evX Pm env (runD Pm env D) fn al om (.one x.nod b r) fu) G w fp)) (cP [1, 1, 1, 1, 1, 1, 1, 1] acode)
      [(1, .slice p L.length c), (3, ptrV b3), (6, ptrV b6), (7, ptrV b7), (10, .int .i64 (kr : Int)), (11, ptrV b11)] [ro w fp G, evs be bm fu, cxB b11 z0 be, nodB b7 x, zB b6, cxB b3 z be] := by
  conv => pattern cP _ _; whnf
  have hval := fun W fp' (hO : Own [evs be bm fu] fp' W) (hSb : Rd.sub G fp' W) (hM : MapVAt W bm ks) => hV r kr dd rest z fn al om be bm fu G W fp' hN hok hk hD hC hS hM hne hI hO hSb
  have hres : evX Pm env (runD Pm env D) fn al om (.one x.nod b r) fu = (evX Pm env (runD Pm env D) fn al om r fu).bind fun o f => stepR f fun f => if x.aop = 6 then runD Pm env D b none o f else if x.aop = 7 then runD Pm env D fn none o f else mustR (Pm.one x.aop x.af x.ag o) f := by simp only [evX]; rfl
  rw [hres]
  generalize evX Pm env (runD Pm env D) fn al om r fu = Z1 at *
  clear hV hN hok hk hC hres
  ((repeat' (first|refine zza ?_|refine zc9 ?_|refine zzb fun w hw => ?_|refine zzh fun _ => ?_|refine zzi fun _ _ => ?_|refine zzj (fun _ => ?_) fun _ => ?_)); (repeat' (refine CW_seq ?_; (repeat' (first|refine zza ?_|refine zc9 ?_|refine zzb fun w hw => ?_|refine zzh fun _ => ?_|refine zzi fun _ _ => ?_|refine zzj (fun _ => ?_) fun _ => ?_)))))
  refine WL_callE (r := [cxB b11 z0 be, nodB b7 x, zB b6, cxB b3 z be]) be bm fu Z1 (fun W fp' hW hO hSb _ => hval W fp' hO hSb (hnm W hW.keep)) ?_ ?_
  case refine_2 =>
    intro c' f' hr h0'
    clear hval
    ((repeat' (first|refine zza ?_|refine zc9 ?_|refine zzb fun w hw => ?_|refine zzh fun _ => ?_|refine zzi fun _ _ => ?_|refine zzj (fun _ => ?_) fun _ => ?_)); (repeat' (refine CW_seq ?_; (repeat' (first|refine zza ?_|refine zc9 ?_|refine zzb fun w hw => ?_|refine zzh fun _ => ?_|refine zzi fun _ _ => ?_|refine zzj (fun _ => ?_) fun _ => ?_)))))
    exact EGot.none (by rw [hr]; rfl) h0' (hw.ent zent)
  intro G1 v f1 hr hv h1 hI1 g1
  clear hval
  ((repeat' (first|refine zza ?_|refine zc9 ?_|refine zzb fun w hw => ?_|refine zzh fun _ => ?_|refine zzi fun _ _ => ?_|refine zu1 ?_|refine zu2 ?_|refine zu3 ?_|refine zu4 fun _ => ?_|refine zzj (fun _ => ?_) fun _ => ?_)); (repeat' (refine CW_seq ?_; (repeat' (first|refine zza ?_|refine zc9 ?_|refine zzb fun w hw => ?_|refine zzh fun _ => ?_|refine zzi fun _ _ => ?_|refine zu1 ?_|refine zu2 ?_|refine zu3 ?_|refine zu4 fun _ => ?_|refine zzj (fun _ => ?_) fun _ => ?_)))))
  refine WL_ent (m' := [ro w fp G1, evs be bm f1, cxB b11 { z0 with omega := v } be, nodB b7 x, zB b6]) (Ent.cons zpk (Ent.cons zpk (Ent.consK (k := Ent.cons zpk (Ent.cons zpk Ent.nil)) zpk))) ?_
  have hstep := fun W fp' (hO : Own [evs be bm f1] fp' W) (hSb : Rd.sub G1 fp' W) => eval_step be bm f1 hI1 G1 W fp' hO hSb
  refine WL_callS (r := [cxB b11 { z0 with omega := v } be, nodB b7 x, zB b6]) be bm f1 hstep (fun hpos => ?_) (fun h0' => ?_)
  case refine_2 =>
    clear hstep
    ((repeat' (first|refine zza ?_|refine zc9 ?_|refine zzb fun w hw => ?_|refine zzh fun _ => ?_|refine zzi fun _ _ => ?_|refine zzj (fun _ => ?_) fun _ => ?_)); (repeat' (refine CW_seq ?_; (repeat' (first|refine zza ?_|refine zc9 ?_|refine zzb fun w hw => ?_|refine zzh fun _ => ?_|refine zzi fun _ _ => ?_|refine zzj (fun _ => ?_) fun _ => ?_)))))
    exact EGot.none (c := 8) (by rw [hr]; simp only [Res.bind, stepR]; rw [if_pos h0']) (by decide) ((hw.ent zent).roDown g1)
  clear hstep
  have hI2 : I64 (f1 - 1) := ⟨by omega, by have := hI1.2; omega⟩
  have hZ : (Z1.bind fun o f => stepR f fun f => if x.aop = 6 then runD Pm env D b none o f else if x.aop = 7 then runD Pm env D fn none o f else mustR (Pm.one x.aop x.af x.ag o) f) = (if x.aop = 6 then runD Pm env D b none v.arr (f1 - 1) else if x.aop = 7 then runD Pm env D fn none v.arr (f1 - 1) else mustR (Pm.one x.aop x.af x.ag v.arr) (f1 - 1)) := by
    rw [hr]
    simp only [Res.bind]
    rw [stepR_pos hpos]
  generalize (Z1.bind fun o f => stepR f fun f => if x.aop = 6 then runD Pm env D b none o f else if x.aop = 7 then runD Pm env D fn none o f else mustR (Pm.one x.aop x.af x.ag o) f) = Z at *
  clear hr
  have hal : AlOk G1 z0.alpha none := h0a
  by_cases a6 : x.aop = 6
  · rw [if_pos a6] at hZ
    have hcall := fun W fp' (hO : Own [evs be bm (f1 - 1)] fp' W) (hSb : Rd.sub G1 fp' W) (hM : MapVAt W bm ks) => hRun ⟨x, hx, .inl a6⟩ (dd + 1) { z0 with omega := v } b none v.arr be bm (f1 - 1) G1 W fp' (by omega) (by show z0.deep + D = 51; omega) (h0.dfn a6 v z0.alpha none G1 g1.1 hv h1 hal) (hS.mono g1.1) hM hne hI2 hO hSb
    rw [← hZ] at hcall
    clear hZ hRun hal h0 hS
    ((repeat' (first|refine zza ?_|refine zc9 ?_|refine zzb fun w hw => ?_|refine zzh fun _ => ?_|refine zzi fun _ _ => ?_|refine zzj (fun _ => ?_) fun _ => ?_)); (repeat' (refine CW_seq ?_; (repeat' (first|refine zza ?_|refine zc9 ?_|refine zzb fun w hw => ?_|refine zzh fun _ => ?_|refine zzi fun _ _ => ?_|refine zzj (fun _ => ?_) fun _ => ?_)))))
    refine WL_callE (r := [zB b6]) be bm (f1 - 1) Z (fun W fp' hW hO hSb _ => hcall W fp' hO hSb (hnm W hW.keep)) ?_ ?_
    · intro G2 u f2 hr hu hu1 hI3 g2
      clear hcall
      ((repeat' (first|refine zza ?_|refine zc9 ?_|refine zzb fun w hw => ?_|refine zzh fun _ => ?_|refine zzi fun _ _ => ?_|refine zu1 ?_|refine zu2 ?_|refine zu3 ?_|refine zu4 fun _ => ?_|refine zzj (fun _ => ?_) fun _ => ?_)); (repeat' (refine CW_seq ?_; (repeat' (first|refine zza ?_|refine zc9 ?_|refine zzb fun w hw => ?_|refine zzh fun _ => ?_|refine zzi fun _ _ => ?_|refine zu1 ?_|refine zu2 ?_|refine zu3 ?_|refine zu4 fun _ => ?_|refine zzj (fun _ => ?_) fun _ => ?_)))))
      exact EGot.some hr hu hu1 hI3 (Rd.grow_tr g1 g2) (hw.ent zent)
    · intro c' f2 hr h0'
      clear hcall
      ((repeat' (first|refine zza ?_|refine zc9 ?_|refine zzb fun w hw => ?_|refine zzh fun _ => ?_|refine zzi fun _ _ => ?_|refine zzj (fun _ => ?_) fun _ => ?_)); (repeat' (refine CW_seq ?_; (repeat' (first|refine zza ?_|refine zc9 ?_|refine zzb fun w hw => ?_|refine zzh fun _ => ?_|refine zzi fun _ _ => ?_|refine zzj (fun _ => ?_) fun _ => ?_)))))
      exact EGot.none hr h0' ((hw.ent zent).roDown g1)
  rw [if_neg a6] at hZ
  by_cases a7 : x.aop = 7
  · rw [if_pos a7] at hZ
    obtain ⟨hdd, hslf⟩ := h0.slf a7
    have hcall := fun W fp' (hO : Own [evs be bm (f1 - 1)] fp' W) (hSb : Rd.sub G1 fp' W) (hM : MapVAt W bm ks) => hRun ⟨x, hx, .inr a7⟩ dd { z0 with omega := v } fn none v.arr be bm (f1 - 1) G1 W fp' hdd (by show z0.deep + D = 51; omega) (hslf v z0.alpha none G1 g1.1 hv h1 hal) (hS.mono g1.1) hM hne hI2 hO hSb
    rw [← hZ] at hcall
    clear hZ hRun hal h0 hS hslf
    ((repeat' (first|refine zza ?_|refine zc9 ?_|refine zzb fun w hw => ?_|refine zzh fun _ => ?_|refine zzi fun _ _ => ?_|refine zzj (fun _ => ?_) fun _ => ?_)); (repeat' (refine CW_seq ?_; (repeat' (first|refine zza ?_|refine zc9 ?_|refine zzb fun w hw => ?_|refine zzh fun _ => ?_|refine zzi fun _ _ => ?_|refine zzj (fun _ => ?_) fun _ => ?_)))))
    refine WL_callE (r := [zB b6]) be bm (f1 - 1) Z (fun W fp' hW hO hSb _ => hcall W fp' hO hSb (hnm W hW.keep)) ?_ ?_
    · intro G2 u f2 hr hu hu1 hI3 g2
      clear hcall
      ((repeat' (first|refine zza ?_|refine zc9 ?_|refine zzb fun w hw => ?_|refine zzh fun _ => ?_|refine zzi fun _ _ => ?_|refine zu1 ?_|refine zu2 ?_|refine zu3 ?_|refine zu4 fun _ => ?_|refine zzj (fun _ => ?_) fun _ => ?_)); (repeat' (refine CW_seq ?_; (repeat' (first|refine zza ?_|refine zc9 ?_|refine zzb fun w hw => ?_|refine zzh fun _ => ?_|refine zzi fun _ _ => ?_|refine zu1 ?_|refine zu2 ?_|refine zu3 ?_|refine zu4 fun _ => ?_|refine zzj (fun _ => ?_) fun _ => ?_)))))
      exact EGot.some hr hu hu1 hI3 (Rd.grow_tr g1 g2) (hw.ent zent)
    · intro c' f2 hr h0'
      clear hcall
      ((repeat' (first|refine zza ?_|refine zc9 ?_|refine zzb fun w hw => ?_|refine zzh fun _ => ?_|refine zzi fun _ _ => ?_|refine zzj (fun _ => ?_) fun _ => ?_)); (repeat' (refine CW_seq ?_; (repeat' (first|refine zza ?_|refine zc9 ?_|refine zzb fun w hw => ?_|refine zzh fun _ => ?_|refine zzi fun _ _ => ?_|refine zzj (fun _ => ?_) fun _ => ?_)))))
      exact EGot.none hr h0' ((hw.ent zent).roDown g1)
  rw [if_neg a7] at hZ
  have hone := fun W (hW : Rd.sub G1 [] W) => hG.one x hx h6 a6 a7 v G1 W (fun a u e => (hW a u e).1) hv
  have hone1 := hG.one1 x hx h6 a6 a7 v.arr
  generalize Pm.one x.aop x.af x.ag v.arr = R at *
  clear hRun hal h0 hS
  ((repeat' (first|refine zza ?_|refine zc9 ?_|refine zzb fun w hw => ?_|refine zzh fun _ => ?_|refine zzi fun _ _ => ?_|refine zzj (fun _ => ?_) fun _ => ?_)); (repeat' (refine CW_seq ?_; (repeat' (first|refine zza ?_|refine zc9 ?_|refine zzb fun w hw => ?_|refine zzh fun _ => ?_|refine zzi fun _ _ => ?_|refine zzj (fun _ => ?_) fun _ => ?_)))))
  refine WL_callT (r := [evs be bm (f1 - 1), zB b6]) zent rfl rfl rfl hone ?_
  rintro u G2 ⟨hu, huG⟩ g2
  clear hone
  obtain ⟨e, ra⟩ := R
  dsimp only at hu hone1
  by_cases he : e = 0
  · subst he
    ((repeat' (first|refine zza ?_|refine zc9 ?_|refine zzb fun w hw => ?_|refine zzh fun _ => ?_|refine zzi fun _ _ => ?_|refine zzj (fun _ => ?_) fun _ => ?_)); (repeat' (refine CW_seq ?_; (repeat' (first|refine zza ?_|refine zc9 ?_|refine zzb fun w hw => ?_|refine zzh fun _ => ?_|refine zzi fun _ _ => ?_|refine zzj (fun _ => ?_) fun _ => ?_)))))
    refine WL_callV rfl rfl rfl (fun W _ => must_ok u W) ?_
    ((repeat' (first|refine zza ?_|refine zc9 ?_|refine zzb fun w hw => ?_|refine zzh fun _ => ?_|refine zzi fun _ _ => ?_|refine zu1 ?_|refine zu2 ?_|refine zu3 ?_|refine zu4 fun _ => ?_|refine zzj (fun _ => ?_) fun _ => ?_)); (repeat' (refine CW_seq ?_; (repeat' (first|refine zza ?_|refine zc9 ?_|refine zzb fun w hw => ?_|refine zzh fun _ => ?_|refine zzi fun _ _ => ?_|refine zu1 ?_|refine zu2 ?_|refine zu3 ?_|refine zu4 fun _ => ?_|refine zzj (fun _ => ?_) fun _ => ?_)))))
    exact EGot.some (v := u) (by rw [hZ, hu]; rfl) huG (by rw [hu]; exact hone1 rfl) hI2 (Rd.grow_tr g1 g2) (hw.ent zent)
  · have hm : ∀ W, Calls Tryz.prog 230 #[arrV u, errV 49 e] W fun e' w' => e' = .panicked (errE e) ∧ Below W.heap.size W w' := fun W => by
      rw [errV_ne he]
      exact must_bad u e W
    ((repeat' (first|refine zza ?_|refine zc9 ?_|refine zzb fun w hw => ?_|refine zzh fun _ => ?_|refine zzi fun _ _ => ?_|refine zzj (fun _ => ?_) fun _ => ?_)); (repeat' (refine CW_seq ?_; (repeat' (first|refine zza ?_|refine zc9 ?_|refine zzb fun w hw => ?_|refine zzh fun _ => ?_|refine zzi fun _ _ => ?_|refine zzj (fun _ => ?_) fun _ => ?_)))))
    refine WL_callUP (C := errE e) (m1 := []) (r := [evs be bm (f1 - 1)]) zent rfl rfl rfl (fun W fp' hO _ => ?_) ?_
    · obtain rfl := own_nil hO
      exact (hm W).mono fun e' w' ⟨h1, h2⟩ => ⟨h1, Keep.ofBelow h2⟩
    · ((repeat' (first|refine zza ?_|refine zc9 ?_|refine zzb fun w hw => ?_|refine zzh fun _ => ?_|refine zzi fun _ _ => ?_|refine zzj (fun _ => ?_) fun _ => ?_)); (repeat' (refine CW_seq ?_; (repeat' (first|refine zza ?_|refine zc9 ?_|refine zzb fun w hw => ?_|refine zzh fun _ => ?_|refine zzi fun _ _ => ?_|refine zzj (fun _ => ?_) fun _ => ?_)))))
      exact EGot.none (by rw [hZ]; show (if e ≠ 0 then Res.err e else _) = _; rw [if_pos he]) he ((hw.ent zent).roDown (Rd.grow_tr g1 g2))
set_option maxHeartbeats 16000000 in
set_option maxRecDepth 100000 in
theorem act_rest2 (Pm : Prims) (p : Option Addr) (c : Nat) (L : List NodM) (ks : List (List UInt8 × Value)) (env : Names) (D N : Nat) (hG : Given Pm L)
    (hV : ValC Pm p c L ks env D N) (hRun : (∃ y ∈ L, y.aop = 6 ∨ y.aop = 7) → RunC Pm p c L ks env D)
    (x : NodM) (hx : x ∈ L) (h6 : x.op = 7) (l : Ex) (b : Exs) (r : Ex) (kl kr dd : Nat) (rest restl : List Nod) (z z0 : CtxM) (fn : Exs) (al : Option Arr) (om : Arr) (be bm b3 b6 b7 b11 : Nat) (fu : Int) (G : Rd) (w : World) (fp : List Nat) (hfp : fp = [be]) (hN : r.flat.length ≤ N) (hok : r.ok dd) (hk : (L.map NodM.nod).drop kr = r.flat ++ rest) (hNl : l.flat.length ≤ N) (hokl : l.ok dd) (hkl : (L.map NodM.nod).drop kl = l.flat ++ restl) (hD : z.deep + D = 50)
    (hC : CtxOk p c L G z fn al om dd) (hS : Sit p c L ks env G) (hnm : ∀ W, Keep w fp W → MapVAt W bm ks) (hne : bm ≠ be) (hI : I64 fu) (h0 : NextOk p c L G z0 x b fn dd) (h0d : z0.deep = z.deep + 1) :
    CW Tryz.prog ⟨118, [], w, fp⟩ (QBody Tryz.prog Tryz.f171 (EGot be bm (evX Pm env (runD Pm env D) fn al om (.two x.nod l b r) fu) G w fp)) (cP [1, 1, 1, 1, 1, 1, 1, 1] acode)
      [(1, .slice p L.length c), (3, ptrV b3), (6, ptrV b6), (7, ptrV b7), (8, .int .i64 (kl : Int)), (10, .int .i64 (kr : Int)), (11, ptrV b11)] [ro w fp G, evs be bm fu, cxB b11 z0 be, nodB b7 x, zB b6, cxB b3 z be] := by
  conv => pattern cP _ _; whnf
  have hval := fun W fp' (hO : Own [evs be bm fu] fp' W) (hSb : Rd.sub G fp' W) (hM : MapVAt W bm ks) => hV r kr dd rest z fn al om be bm fu G W fp' hN hok hk hD hC hS hM hne hI hO hSb
  have hres : evX Pm env (runD Pm env D) fn al om (.two x.nod l b r) fu = (evX Pm env (runD Pm env D) fn al om r fu).bind (fun o f => (evX Pm env (runD Pm env D) fn al om l f).bind fun a f => stepR f fun f => if x.aop = 6 then runD Pm env D b (some a) o f else if x.aop = 7 then runD Pm env D fn (some a) o f else mustR (Pm.two x.aop x.af x.ag a o) f) := by simp only [evX]; rfl
  rw [hres]
  generalize evX Pm env (runD Pm env D) fn al om r fu = Z1 at *
  clear hN hok hk hres
  ((repeat' (first|refine zza ?_|refine zc9 ?_|refine zzb fun w hw => ?_|refine zzh fun _ => ?_|refine zzi fun _ _ => ?_|refine zzj (fun _ => ?_) fun _ => ?_)); (repeat' (refine CW_seq ?_; (repeat' (first|refine zza ?_|refine zc9 ?_|refine zzb fun w hw => ?_|refine zzh fun _ => ?_|refine zzi fun _ _ => ?_|refine zzj (fun _ => ?_) fun _ => ?_)))))
  refine WL_callE (r := [cxB b11 z0 be, nodB b7 x, zB b6, cxB b3 z be]) be bm fu Z1 (fun W fp' hW hO hSb _ => hval W fp' hO hSb (hnm W hW.keep)) ?_ ?_
  case refine_2 =>
    intro c' f' hr h0'
    clear hval
    ((repeat' (first|refine zza ?_|refine zc9 ?_|refine zzb fun w hw => ?_|refine zzh fun _ => ?_|refine zzi fun _ _ => ?_|refine zzj (fun _ => ?_) fun _ => ?_)); (repeat' (refine CW_seq ?_; (repeat' (first|refine zza ?_|refine zc9 ?_|refine zzb fun w hw => ?_|refine zzh fun _ => ?_|refine zzi fun _ _ => ?_|refine zzj (fun _ => ?_) fun _ => ?_)))))
    exact EGot.none (by rw [hr]; rfl) h0' (hw.ent zent)
  intro G1 v f1 hr hv h1 hI1 g1
  clear hval
  ((repeat' (first|refine zza ?_|refine zc9 ?_|refine zzb fun w hw => ?_|refine zzh fun _ => ?_|refine zzi fun _ _ => ?_|refine zu1 ?_|refine zu2 ?_|refine zu3 ?_|refine zu4 fun _ => ?_|refine zzj (fun _ => ?_) fun _ => ?_)); (repeat' (refine CW_seq ?_; (repeat' (first|refine zza ?_|refine zc9 ?_|refine zzb fun w hw => ?_|refine zzh fun _ => ?_|refine zzi fun _ _ => ?_|refine zu1 ?_|refine zu2 ?_|refine zu3 ?_|refine zu4 fun _ => ?_|refine zzj (fun _ => ?_) fun _ => ?_)))))
  refine WL_ent (m' := [ro w fp G1, evs be bm f1, cxB b11 { z0 with omega := v } be, nodB b7 x, zB b6, cxB b3 z be]) (Ent.cons zpk (Ent.cons zpk (Ent.consK (k := Ent.cons zpk (Ent.cons zpk (Ent.cons zpk Ent.nil))) zpk))) ?_
  have hval := fun W fp' (hO : Own [evs be bm f1] fp' W) (hSb : Rd.sub G1 fp' W) (hM : MapVAt W bm ks) => hV l kl dd restl z fn al om be bm f1 G1 W fp' hNl hokl hkl hD (hC.mono g1.1) (hS.mono g1.1) hM hne hI1 hO hSb
  have hres : Z1.bind (fun o f => (evX Pm env (runD Pm env D) fn al om l f).bind fun a f => stepR f fun f => if x.aop = 6 then runD Pm env D b (some a) o f else if x.aop = 7 then runD Pm env D fn (some a) o f else mustR (Pm.two x.aop x.af x.ag a o) f) = (fun o f => (evX Pm env (runD Pm env D) fn al om l f).bind fun a f => stepR f fun f => if x.aop = 6 then runD Pm env D b (some a) o f else if x.aop = 7 then runD Pm env D fn (some a) o f else mustR (Pm.two x.aop x.af x.ag a o) f) v.arr f1 := by rw [hr]; rfl
  rw [hres]
  clear hr hres
  dsimp only
  generalize evX Pm env (runD Pm env D) fn al om l f1 = Z2 at *
  clear hV hNl hokl hkl hC
  refine WL_callE (r := [cxB b11 { z0 with omega := v } be, nodB b7 x, zB b6, cxB b3 z be]) be bm f1 Z2 (fun W fp' hW hO hSb _ => hval W fp' hO hSb (hnm W hW.keep)) ?_ ?_
  case refine_2 =>
    intro c' f' hr h0'
    clear hval
    ((repeat' (first|refine zza ?_|refine zc9 ?_|refine zzb fun w hw => ?_|refine zzh fun _ => ?_|refine zzi fun _ _ => ?_|refine zzj (fun _ => ?_) fun _ => ?_)); (repeat' (refine CW_seq ?_; (repeat' (first|refine zza ?_|refine zc9 ?_|refine zzb fun w hw => ?_|refine zzh fun _ => ?_|refine zzi fun _ _ => ?_|refine zzj (fun _ => ?_) fun _ => ?_)))))
    exact EGot.none (by rw [hr]; rfl) h0' ((hw.ent zent).roDown g1)
  intro G1' a f1 hr ha ha1 hI1 g1'
  have g1 := Rd.grow_tr g1 g1'
  have hv := hv.mono g1'.1
  clear hval g1'
  ((repeat' (first|refine zza ?_|refine zc9 ?_|refine zzb fun w hw => ?_|refine zzh fun _ => ?_|refine zzi fun _ _ => ?_|refine zu1 ?_|refine zu2 ?_|refine zu3 ?_|refine zu4 fun _ => ?_|refine zzj (fun _ => ?_) fun _ => ?_)); (repeat' (refine CW_seq ?_; (repeat' (first|refine zza ?_|refine zc9 ?_|refine zzb fun w hw => ?_|refine zzh fun _ => ?_|refine zzi fun _ _ => ?_|refine zu1 ?_|refine zu2 ?_|refine zu3 ?_|refine zu4 fun _ => ?_|refine zzj (fun _ => ?_) fun _ => ?_)))))
  rename_i b12
  refine WL_ent (m' := [boxB b12 a, ro w fp G1', evs be bm f1, cxB b11 { z0 with omega := v, alpha := some ⟨b12, 0, none⟩ } be, nodB b7 x, zB b6]) (Ent.consK (k := Ent.cons zpk (Ent.cons zpk (Ent.consK (k := Ent.cons zpk (Ent.cons zpk Ent.nil)) zpk))) zpk) ?_
  refine WL_rowF (enc := arrE) (sz := 3) (u := a) (fun _ => rfl) (by decide) (evs_F hfp) .here .here rfl fun G1 g1'' hrow => ?_
  have ha := ha.mono g1''.1
  have hv := hv.mono g1''.1
  have g1 := Rd.grow_tr g1 g1''
  clear g1''
  have hstep := fun W fp' (hO : Own [evs be bm f1] fp' W) (hSb : Rd.sub G1 fp' W) => eval_step be bm f1 hI1 G1 W fp' hO hSb
  refine WL_callS (r := [cxB b11 { z0 with omega := v, alpha := some ⟨b12, 0, none⟩ } be, nodB b7 x, zB b6]) be bm f1 hstep (fun hpos => ?_) (fun h0' => ?_)
  case refine_2 =>
    clear hstep
    ((repeat' (first|refine zza ?_|refine zc9 ?_|refine zzb fun w hw => ?_|refine zzh fun _ => ?_|refine zzi fun _ _ => ?_|refine zzj (fun _ => ?_) fun _ => ?_)); (repeat' (refine CW_seq ?_; (repeat' (first|refine zza ?_|refine zc9 ?_|refine zzb fun w hw => ?_|refine zzh fun _ => ?_|refine zzi fun _ _ => ?_|refine zzj (fun _ => ?_) fun _ => ?_)))))
    exact EGot.none (c := 8) (by rw [hr]; simp only [Res.bind, stepR]; rw [if_pos h0']) (by decide) ((hw.ent zent).roDown g1)
  clear hstep
  have hI2 : I64 (f1 - 1) := ⟨by omega, by have := hI1.2; omega⟩
  have hZ : Z2.bind (fun a f => stepR f fun f => if x.aop = 6 then runD Pm env D b (some a) v.arr f else if x.aop = 7 then runD Pm env D fn (some a) v.arr f else mustR (Pm.two x.aop x.af x.ag a v.arr) f) = (if x.aop = 6 then runD Pm env D b (some a.arr) v.arr (f1 - 1) else if x.aop = 7 then runD Pm env D fn (some a.arr) v.arr (f1 - 1) else mustR (Pm.two x.aop x.af x.ag a.arr v.arr) (f1 - 1)) := by
    rw [hr]
    simp only [Res.bind]
    rw [stepR_pos hpos]
  generalize Z2.bind (fun a f => stepR f fun f => if x.aop = 6 then runD Pm env D b (some a) v.arr f else if x.aop = 7 then runD Pm env D fn (some a) v.arr f else mustR (Pm.two x.aop x.af x.ag a v.arr) f) = Z at *
  clear hr
  have hal : AlOk G1 (some ⟨b12, 0, none⟩) (some a.arr) := ⟨b12, a, rfl, hrow, ha, rfl, ha1⟩
  by_cases a6 : x.aop = 6
  · rw [if_pos a6] at hZ
    have hcall := fun W fp' (hO : Own [evs be bm (f1 - 1)] fp' W) (hSb : Rd.sub G1 fp' W) (hM : MapVAt W bm ks) => hRun ⟨x, hx, .inl a6⟩ (dd + 1) { z0 with omega := v, alpha := some ⟨b12, 0, none⟩ } b (some a.arr) v.arr be bm (f1 - 1) G1 W fp' (by omega) (by show z0.deep + D = 51; omega) (h0.dfn a6 v (some ⟨b12, 0, none⟩) (some a.arr) G1 g1.1 hv h1 hal) (hS.mono g1.1) hM hne hI2 hO hSb
    rw [← hZ] at hcall
    clear hZ hRun hal h0 hS
    ((repeat' (first|refine zza ?_|refine zc9 ?_|refine zzb fun w hw => ?_|refine zzh fun _ => ?_|refine zzi fun _ _ => ?_|refine zzj (fun _ => ?_) fun _ => ?_)); (repeat' (refine CW_seq ?_; (repeat' (first|refine zza ?_|refine zc9 ?_|refine zzb fun w hw => ?_|refine zzh fun _ => ?_|refine zzi fun _ _ => ?_|refine zzj (fun _ => ?_) fun _ => ?_)))))
    refine WL_callE (r := [zB b6]) be bm (f1 - 1) Z (fun W fp' hW hO hSb _ => hcall W fp' hO hSb (hnm W hW.keep)) ?_ ?_
    · intro G2 u f2 hr hu hu1 hI3 g2
      clear hcall
      ((repeat' (first|refine zza ?_|refine zc9 ?_|refine zzb fun w hw => ?_|refine zzh fun _ => ?_|refine zzi fun _ _ => ?_|refine zu1 ?_|refine zu2 ?_|refine zu3 ?_|refine zu4 fun _ => ?_|refine zzj (fun _ => ?_) fun _ => ?_)); (repeat' (refine CW_seq ?_; (repeat' (first|refine zza ?_|refine zc9 ?_|refine zzb fun w hw => ?_|refine zzh fun _ => ?_|refine zzi fun _ _ => ?_|refine zu1 ?_|refine zu2 ?_|refine zu3 ?_|refine zu4 fun _ => ?_|refine zzj (fun _ => ?_) fun _ => ?_)))))
      exact EGot.some hr hu hu1 hI3 (Rd.grow_tr g1 g2) (hw.ent zent)
    · intro c' f2 hr h0'
      clear hcall
      ((repeat' (first|refine zza ?_|refine zc9 ?_|refine zzb fun w hw => ?_|refine zzh fun _ => ?_|refine zzi fun _ _ => ?_|refine zzj (fun _ => ?_) fun _ => ?_)); (repeat' (refine CW_seq ?_; (repeat' (first|refine zza ?_|refine zc9 ?_|refine zzb fun w hw => ?_|refine zzh fun _ => ?_|refine zzi fun _ _ => ?_|refine zzj (fun _ => ?_) fun _ => ?_)))))
      exact EGot.none hr h0' ((hw.ent zent).roDown g1)
  rw [if_neg a6] at hZ
  by_cases a7 : x.aop = 7
  · rw [if_pos a7] at hZ
    obtain ⟨hdd, hslf⟩ := h0.slf a7
    have hcall := fun W fp' (hO : Own [evs be bm (f1 - 1)] fp' W) (hSb : Rd.sub G1 fp' W) (hM : MapVAt W bm ks) => hRun ⟨x, hx, .inr a7⟩ dd { z0 with omega := v, alpha := some ⟨b12, 0, none⟩ } fn (some a.arr) v.arr be bm (f1 - 1) G1 W fp' hdd (by show z0.deep + D = 51; omega) (hslf v (some ⟨b12, 0, none⟩) (some a.arr) G1 g1.1 hv h1 hal) (hS.mono g1.1) hM hne hI2 hO hSb
    rw [← hZ] at hcall
    clear hZ hRun hal h0 hS hslf
    ((repeat' (first|refine zza ?_|refine zc9 ?_|refine zzb fun w hw => ?_|refine zzh fun _ => ?_|refine zzi fun _ _ => ?_|refine zzj (fun _ => ?_) fun _ => ?_)); (repeat' (refine CW_seq ?_; (repeat' (first|refine zza ?_|refine zc9 ?_|refine zzb fun w hw => ?_|refine zzh fun _ => ?_|refine zzi fun _ _ => ?_|refine zzj (fun _ => ?_) fun _ => ?_)))))
    refine WL_callE (r := [zB b6]) be bm (f1 - 1) Z (fun W fp' hW hO hSb _ => hcall W fp' hO hSb (hnm W hW.keep)) ?_ ?_
    · intro G2 u f2 hr hu hu1 hI3 g2
      clear hcall
      ((repeat' (first|refine zza ?_|refine zc9 ?_|refine zzb fun w hw => ?_|refine zzh fun _ => ?_|refine zzi fun _ _ => ?_|refine zu1 ?_|refine zu2 ?_|refine zu3 ?_|refine zu4 fun _ => ?_|refine zzj (fun _ => ?_) fun _ => ?_)); (repeat' (refine CW_seq ?_; (repeat' (first|refine zza ?_|refine zc9 ?_|refine zzb fun w hw => ?_|refine zzh fun _ => ?_|refine zzi fun _ _ => ?_|refine zu1 ?_|refine zu2 ?_|refine zu3 ?_|refine zu4 fun _ => ?_|refine zzj (fun _ => ?_) fun _ => ?_)))))
      exact EGot.some hr hu hu1 hI3 (Rd.grow_tr g1 g2) (hw.ent zent)
    · intro c' f2 hr h0'
      clear hcall
      ((repeat' (first|refine zza ?_|refine zc9 ?_|refine zzb fun w hw => ?_|refine zzh fun _ => ?_|refine zzi fun _ _ => ?_|refine zzj (fun _ => ?_) fun _ => ?_)); (repeat' (refine CW_seq ?_; (repeat' (first|refine zza ?_|refine zc9 ?_|refine zzb fun w hw => ?_|refine zzh fun _ => ?_|refine zzi fun _ _ => ?_|refine zzj (fun _ => ?_) fun _ => ?_)))))
      exact EGot.none hr h0' ((hw.ent zent).roDown g1)
  rw [if_neg a7] at hZ
  have hone := fun W (hW : Rd.sub G1 [] W) => hG.two x hx h6 a6 a7 a v G1 W (fun a u e => (hW a u e).1) ha hv
  have hone1 := hG.two1 x hx h6 a6 a7 a.arr v.arr
  generalize Pm.two x.aop x.af x.ag a.arr v.arr = R at *
  clear hRun h0 hS
  obtain ⟨e, ra⟩ := R
  (repeat' ((fail_if_success refine zc8 ?_); (first|refine zza ?_|refine zzb fun w hw => ?_|refine zzh fun _ => ?_|refine zzi fun _ _ => ?_|refine zzj (fun _ => ?_) fun _ => ?_)))
  (repeat' (refine CW_seq ?_; (repeat' ((fail_if_success refine zc8 ?_); (first|refine zza ?_|refine zzb fun w hw => ?_|refine zzh fun _ => ?_|refine zzi fun _ _ => ?_|refine zzj (fun _ => ?_) fun _ => ?_)))))
  refine CW_perm 12 [0, 1, 2, 3, 4, 5, 6, 7, 8, 9, 10, 11] [ro w fp G1, evs be bm (f1 - 1), cxB b11 { z0 with omega := v, alpha := some ⟨b12, 0, none⟩ } be, nodB b7 x, zB b6] [] zcov (pm := []) zent (by kernel_rfl) (by decide +kernel) (by kernel_rfl) ?_
  (refine WP_op rfl rfl rfl zyi ?_)
  (refine WP_op rfl rfl rfl zyi ?_)
  (refine WP_op rfl rfl rfl zyi ?_)
  (refine WP_op rfl rfl rfl zyi ?_)
  (refine WP_op rfl rfl rfl zyi ?_)
  refine WP_op rfl rfl rfl (by apply y_loadA; rfl; exact rd_box hrow zpk; rfl) ?_
  (refine WP_op rfl rfl rfl zyi ?_)
  (refine WP_op rfl rfl rfl zyi ?_)
  refine WP_callT (r := [evs be bm (f1 - 1), cxB b11 { z0 with omega := v, alpha := some ⟨b12, 0, none⟩ } be, nodB b7 x, zB b6]) rfl zent (by kernel_rfl) rfl rfl rfl hone (fun G' hg => ⟨[], Ent.roLe hg.1 .here Ent.refl⟩) ?_
  rintro u G2 ⟨hu, huG⟩ g2
  clear hone
  dsimp only at hu hone1
  (refine WP_op rfl rfl rfl zyi ?_)
  (refine WP_op rfl rfl rfl zyi ?_)
  by_cases he : e = 0
  · subst he
    refine WP_callV rfl rfl rfl rfl (fun W _ => must_ok u W) ?_
    refine WP_end ?_
    ((repeat' (first|refine zza ?_|refine zc9 ?_|refine zzb fun w hw => ?_|refine zzh fun _ => ?_|refine zzi fun _ _ => ?_|refine zu1 ?_|refine zu2 ?_|refine zu3 ?_|refine zu4 fun _ => ?_|refine zzj (fun _ => ?_) fun _ => ?_)); (repeat' (refine CW_seq ?_; (repeat' (first|refine zza ?_|refine zc9 ?_|refine zzb fun w hw => ?_|refine zzh fun _ => ?_|refine zzi fun _ _ => ?_|refine zu1 ?_|refine zu2 ?_|refine zu3 ?_|refine zu4 fun _ => ?_|refine zzj (fun _ => ?_) fun _ => ?_)))))
    exact EGot.some (v := u) (by rw [hZ, hu]; rfl) huG (by rw [hu]; exact hone1 rfl) hI2 (Rd.grow_tr g1 g2) (hw.ent zent)
  · have hm : ∀ W, Calls Tryz.prog 230 #[arrV u, errV 49 e] W fun e' w' => e' = .panicked (errE e) ∧ Below W.heap.size W w' := fun W => by
      rw [errV_ne he]
      exact must_bad u e W
    refine WP_callG (G := G2) (m1 := []) (r := [evs be bm (f1 - 1), cxB b11 { z0 with omega := v, alpha := some ⟨b12, 0, none⟩ } be, nodB b7 x, zB b6]) (X := Empty) (Y := Unit) (V := fun x => x.elim) (Gx := fun x => x.elim) (M := fun x => x.elim) (I := fun x => x.elim) (C := fun _ => errE e) (Gy := fun _ => G2) (MP := fun _ => []) (J := fun _ => True) rfl Ent.refl (by kernel_rfl) rfl rfl rfl (fun W fp' _ hO hSb _ => ?_) (fun x => x.elim) (fun x => x.elim) (fun _ _ _ => ?_)
    · obtain rfl := own_nil hO
      exact (hm W).mono fun e' w' ⟨k1, k2⟩ => .inr ⟨(), trivial, k1, Rd.grow_refl _ _, Holds.roAddE hSb (Keep.holds0 k2)⟩
    · ((repeat' (first|refine zza ?_|refine zc9 ?_|refine zzb fun w hw => ?_|refine zzh fun _ => ?_|refine zzi fun _ _ => ?_|refine zzj (fun _ => ?_) fun _ => ?_)); (repeat' (refine CW_seq ?_; (repeat' (first|refine zza ?_|refine zc9 ?_|refine zzb fun w hw => ?_|refine zzh fun _ => ?_|refine zzi fun _ _ => ?_|refine zzj (fun _ => ?_) fun _ => ?_)))))
      exact EGot.none (by rw [hZ]; show (if e ≠ 0 then Res.err e else _) = _; rw [if_pos he]) he ((hw.ent zent).roDown (Rd.grow_tr g1 g2))
end Go.Proofs.YtllgkdkjcbohcaaGreatDoor
