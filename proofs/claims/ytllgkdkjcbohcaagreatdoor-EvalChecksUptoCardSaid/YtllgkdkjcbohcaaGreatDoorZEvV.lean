/-
  eval: the value of an expression, of what the functions acted and picked tell.
-/
import Derived.Test.YtllgkdkjcbohcaaGreatDoorZGo
import Derived.Test.YtllgkdkjcbohcaaGreatDoorZTwoEw
import Derived.Test.YtllgkdkjcbohcaaGreatDoorZPtrL
import Derived.Test.YtllgkdkjcbohcaaGreatDoorZPrimSwp
namespace Go.Proofs.YtllgkdkjcbohcaaGreatDoor
open Go.RowKit
set_option maxRecDepth 100000 in
instance : PtrT Tryz.prog 162 := ⟨Tryz.underlying162⟩
set_option maxRecDepth 100000 in
instance : MapV Tryz.prog 159 (.agg #[.bool false, .slice none 0 0, .slice none 0 0]) := ⟨_, _, Tryz.underlying159, Tryz.underlying9, Tryz.zeroValue43⟩
section
variable {P : Program} {K : Cx} {ρ : Env} {m : List HP} {dst : Option Nat} {ty t : TypeId} {pos : String} {aft : Array Edge} {g : Option (Nat × Bool)} {x y : Operand} {zv u : Value}
theorem y_look0 [MapV P t zv] {b : Nat} {ks : List (List UInt8 × Value)} {l : List UInt8} (hn : seekV ks l = none) (hx : opv ρ x = some (.map (some b))) (hy : opv ρ y = some (.string ⟨l.toArray⟩)) (hp : ∀ w, Holds K.w0 K.F m w → MapVAt w b ks) :
    Yi P K ρ m ⟨dst, .lookup t x y true, ty, pos, aft, g⟩ (.tuple #[zv, .bool false]) := by
  have h := y_lookupV (P := P) (t := t) (dst := dst) (ty := ty) (pos := pos) (aft := aft) (g := g) hx hy hp
  rw [hn] at h
  exact h
theorem y_look1 [MapV P t zv] {b : Nat} {ks : List (List UInt8 × Value)} {l : List UInt8} (hn : seekV ks l = some u) (hx : opv ρ x = some (.map (some b))) (hy : opv ρ y = some (.string ⟨l.toArray⟩)) (hp : ∀ w, Holds K.w0 K.F m w → MapVAt w b ks) :
    Yi P K ρ m ⟨dst, .lookup t x y true, ty, pos, aft, g⟩ (.tuple #[u, .bool true]) := by
  have h := y_lookupV (P := P) (t := t) (dst := dst) (ty := ty) (pos := pos) (aft := aft) (g := g) hx hy hp
  rw [hn] at h
  exact h
end
/-- the contract of a function that takes an expression with parts -/
def PartC (f : FuncId) (o1 o2 : Int) (Pm : Prims) (p : Option Addr) (c : Nat) (L : List NodM) (ks : List (List UInt8 × Value)) (env : Names) (D N : Nat) : Prop :=
  ∀ (e : Ex) (k dd : Nat) (rest : List Nod) (z : CtxM) (fn : Exs) (al : Option Arr) (om : Arr) (be bm : Nat) (fu : Int) (G : Rd) (w : World) (fp : List Nat), (e.head.op = o1 ∨ e.head.op = o2) → e.flat.length ≤ N → e.ok dd → (L.map NodM.nod).drop k = e.flat ++ rest → z.deep + D = 50 →
    CtxOk p c L G z fn al om dd → Sit p c L ks env G → MapVAt w bm ks → bm ≠ be → I64 fu → Own [evs be bm fu] fp w → Rd.sub G fp w →
    Calls Tryz.prog f #[ctxV z be, .slice p L.length c, .int .i64 (k : Int)] w (EGot be bm (evX Pm env (runD Pm env D) fn al om e fu) G w fp)
theorem EGot.some {be bm : Nat} {res : Res} {G G' : Rd} {w w' : World} {fp : List Nat} {v : ArrM} {f : Int} (h : res = .ok v.arr f) (hv : ArrG G' v) (h1 : One1 v.arr) (hI : I64 f) (g : Rd.grow w G G') (hh : Holds w fp (ro w fp G' :: [evs be bm f]) w') : EGot be bm res G w fp (.returned (arrV v)) w' :=
  .inl ⟨(G', v, f), ⟨h, hv, h1, hI⟩, rfl, g, hh⟩
theorem EGot.none {be bm : Nat} {res : Res} {G : Rd} {w w' : World} {fp : List Nat} {c f : Int} (h : res = .err c) (h0 : c ≠ 0) (hh : Holds w fp (ro w fp G :: [evs be bm f]) w') : EGot be bm res G w fp (.panicked (errE c)) w' :=
  .inr ⟨(c, f), ⟨h, h0⟩, rfl, Rd.grow_refl _ _, hh⟩
set_option maxHeartbeats 16000000 in
set_option maxRecDepth 100000 in
theorem eval_value (Pm : Prims) (p : Option Addr) (c : Nat) (L : List NodM) (ks : List (List UInt8 × Value)) (env : Names) (D N : Nat) (hG : Given Pm L)
    (hA : PartC 171 6 7 Pm p c L ks env D N) (hP : PartC 172 8 8 Pm p c L ks env D N) : ValC Pm p c L ks env D N := by
  intro e k dd rest z fn al om be bm fu G w fp hN hok hk hD hC hS hM hne hI hO hSub
  obtain ⟨g1, _⟩ := head_sub hk
  obtain ⟨x, hx, hxn⟩ := nod_at g1
  have hxG := hS.nods x (List.mem_of_getElem? hx)
  have hlt : k < L.length := (List.getElem?_eq_some_iff.1 hx).1
  have hop : e.head.op = x.op := by rw [← hxn]; rfl
  have hrow := hS.row
  have hL := hS.len
  refine enterR (args := [_, _, _]) hSub hO Tryz.func92 rfl Tryz.ntmps92 (by simp) ?_
  have hfp := own_evs hO
  have hnm : ∀ W, Keep w fp W → MapVAt W bm ks := fun W hk => hM.keep hk (by rw [hfp]; simpa using hne)
  by_cases h67 : x.op = 6 ∨ x.op = 7
  · have hcall := fun W fp' (hO : Own [evs be bm fu] fp' W) (hSb : Rd.sub G fp' W) (hM : MapVAt W bm ks) => hA e k dd rest z fn al om be bm fu G W fp' (by rw [hop]; exact h67) hN hok hk hD hC hS hM hne hI hO hSb
    clear hA hP hG hM hO hSub hS hC hok hk hN g1 hxn hop hD hI
    generalize evX Pm env (runD Pm env D) fn al om e fu = Z at *
    rcases h67 with h6 | h7
    · ((repeat' (first|refine zza ?_|refine zc9 ?_|refine zzb fun w hw => ?_|refine zzh fun _ => ?_|refine zzi fun _ _ => ?_|refine zzj (fun _ => ?_) fun _ => ?_)); (repeat' (refine CW_seq ?_; (repeat' (first|refine zza ?_|refine zc9 ?_|refine zzb fun w hw => ?_|refine zzh fun _ => ?_|refine zzi fun _ _ => ?_|refine zzj (fun _ => ?_) fun _ => ?_)))))
      rename_i b3 b6 b7
      refine WL_callE (r := [zB b6]) be bm fu Z (fun W fp' hW hO hSb _ => hcall W fp' hO hSb (hnm W hW.keep)) ?_ ?_
      · intro G' v f' hr hv h1 hI' g
        clear hcall
        ((repeat' (first|refine zza ?_|refine zc9 ?_|refine zzb fun w hw => ?_|refine zzh fun _ => ?_|refine zzi fun _ _ => ?_|refine zu1 ?_|refine zu2 ?_|refine zu3 ?_|refine zu4 fun _ => ?_|refine zzj (fun _ => ?_) fun _ => ?_)); (repeat' (refine CW_seq ?_; (repeat' (first|refine zza ?_|refine zc9 ?_|refine zzb fun w hw => ?_|refine zzh fun _ => ?_|refine zzi fun _ _ => ?_|refine zu1 ?_|refine zu2 ?_|refine zu3 ?_|refine zu4 fun _ => ?_|refine zzj (fun _ => ?_) fun _ => ?_)))))
        exact EGot.some hr hv h1 hI' g (hw.ent zent)
      · intro c' f' hr h0
        clear hcall
        ((repeat' (first|refine zza ?_|refine zc9 ?_|refine zzb fun w hw => ?_|refine zzh fun _ => ?_|refine zzi fun _ _ => ?_|refine zzj (fun _ => ?_) fun _ => ?_)); (repeat' (refine CW_seq ?_; (repeat' (first|refine zza ?_|refine zc9 ?_|refine zzb fun w hw => ?_|refine zzh fun _ => ?_|refine zzi fun _ _ => ?_|refine zzj (fun _ => ?_) fun _ => ?_)))))
        exact EGot.none hr h0 (hw.ent zent)
    · ((repeat' (first|refine zza ?_|refine zc9 ?_|refine zzb fun w hw => ?_|refine zzh fun _ => ?_|refine zzi fun _ _ => ?_|refine zzj (fun _ => ?_) fun _ => ?_)); (repeat' (refine CW_seq ?_; (repeat' (first|refine zza ?_|refine zc9 ?_|refine zzb fun w hw => ?_|refine zzh fun _ => ?_|refine zzi fun _ _ => ?_|refine zzj (fun _ => ?_) fun _ => ?_)))))
      rename_i b3 b6 b7
      refine WL_callE (r := [zB b6]) be bm fu Z (fun W fp' hW hO hSb _ => hcall W fp' hO hSb (hnm W hW.keep)) ?_ ?_
      · intro G' v f' hr hv h1 hI' g
        clear hcall
        ((repeat' (first|refine zza ?_|refine zc9 ?_|refine zzb fun w hw => ?_|refine zzh fun _ => ?_|refine zzi fun _ _ => ?_|refine zu1 ?_|refine zu2 ?_|refine zu3 ?_|refine zu4 fun _ => ?_|refine zzj (fun _ => ?_) fun _ => ?_)); (repeat' (refine CW_seq ?_; (repeat' (first|refine zza ?_|refine zc9 ?_|refine zzb fun w hw => ?_|refine zzh fun _ => ?_|refine zzi fun _ _ => ?_|refine zu1 ?_|refine zu2 ?_|refine zu3 ?_|refine zu4 fun _ => ?_|refine zzj (fun _ => ?_) fun _ => ?_)))))
        exact EGot.some hr hv h1 hI' g (hw.ent zent)
      · intro c' f' hr h0
        clear hcall
        ((repeat' (first|refine zza ?_|refine zc9 ?_|refine zzb fun w hw => ?_|refine zzh fun _ => ?_|refine zzi fun _ _ => ?_|refine zzj (fun _ => ?_) fun _ => ?_)); (repeat' (refine CW_seq ?_; (repeat' (first|refine zza ?_|refine zc9 ?_|refine zzb fun w hw => ?_|refine zzh fun _ => ?_|refine zzi fun _ _ => ?_|refine zzj (fun _ => ?_) fun _ => ?_)))))
        exact EGot.none hr h0 (hw.ent zent)
  by_cases h8 : x.op = 8
  · have hcall := fun W fp' (hO : Own [evs be bm fu] fp' W) (hSb : Rd.sub G fp' W) (hM : MapVAt W bm ks) => hP e k dd rest z fn al om be bm fu G W fp' (by rw [hop]; exact .inl h8) hN hok hk hD hC hS hM hne hI hO hSb
    clear hA hP hG hM hO hSub hS hC hok hk hN g1 hxn hop hD hI
    generalize evX Pm env (runD Pm env D) fn al om e fu = Z at *
    ((repeat' (first|refine zza ?_|refine zc9 ?_|refine zzb fun w hw => ?_|refine zzh fun _ => ?_|refine zzi fun _ _ => ?_|refine zzj (fun _ => ?_) fun _ => ?_)); (repeat' (refine CW_seq ?_; (repeat' (first|refine zza ?_|refine zc9 ?_|refine zzb fun w hw => ?_|refine zzh fun _ => ?_|refine zzi fun _ _ => ?_|refine zzj (fun _ => ?_) fun _ => ?_)))))
    rename_i b3 b6 b7
    refine WL_callE (r := [zB b6]) be bm fu Z (fun W fp' hW hO hSb _ => hcall W fp' hO hSb (hnm W hW.keep)) ?_ ?_
    · intro G' v f' hr hv h1 hI' g
      clear hcall
      ((repeat' (first|refine zza ?_|refine zc9 ?_|refine zzb fun w hw => ?_|refine zzh fun _ => ?_|refine zzi fun _ _ => ?_|refine zu1 ?_|refine zu2 ?_|refine zu3 ?_|refine zu4 fun _ => ?_|refine zzj (fun _ => ?_) fun _ => ?_)); (repeat' (refine CW_seq ?_; (repeat' (first|refine zza ?_|refine zc9 ?_|refine zzb fun w hw => ?_|refine zzh fun _ => ?_|refine zzi fun _ _ => ?_|refine zu1 ?_|refine zu2 ?_|refine zu3 ?_|refine zu4 fun _ => ?_|refine zzj (fun _ => ?_) fun _ => ?_)))))
      exact EGot.some hr hv h1 hI' g (hw.ent zent)
    · intro c' f' hr h0
      clear hcall
      ((repeat' (first|refine zza ?_|refine zc9 ?_|refine zzb fun w hw => ?_|refine zzh fun _ => ?_|refine zzi fun _ _ => ?_|refine zzj (fun _ => ?_) fun _ => ?_)); (repeat' (refine CW_seq ?_; (repeat' (first|refine zza ?_|refine zc9 ?_|refine zzb fun w hw => ?_|refine zzh fun _ => ?_|refine zzi fun _ _ => ?_|refine zzj (fun _ => ?_) fun _ => ?_)))))
      exact EGot.none hr h0 (hw.ent zent)
  have hleaf : e = .leaf x.nod ∧ (x.op = 1 ∨ x.op = 2 ∨ x.op = 3 ∨ ((x.op = 4 ∨ x.op = 5) ∧ 0 < dd)) ∧ rightN x.nod = true := by
    cases e with
    | leaf n =>
      have : n = x.nod := hxn.symm
      subst this
      exact ⟨rfl, hok.2, hok.1⟩
    | one n b r => exact absurd (hop ▸ hok.1.2.1) (by omega)
    | two n l b r => exact absurd (hop ▸ hok.1.2.1) (by omega)
    | pick n o b => exact absurd (hop ▸ hok.1.2.1) (by omega)
  obtain ⟨rfl, ho, hright⟩ := hleaf
  have hstep := fun W fp' (hO : Own [evs be bm fu] fp' W) (hSb : Rd.sub G fp' W) => eval_step be bm fu hI G W fp' hO hSb
  have hres : evX Pm env (runD Pm env D) fn al om (.leaf x.nod) fu = leafR env al om x.nod fu := by simp only [evX]
  rw [hres]
  have hI2 := hI.2
  have n6 : x.op ≠ 6 := fun h => h67 (.inl h)
  have n7 : x.op ≠ 7 := fun h => h67 (.inr h)
  clear hres hA hP hM hO hSub hok hk hN g1 hxn hop hD h67
  have e1 : x.nod.op = x.op := rfl
  have e2 : x.nod.nums = x.nums.xs := rfl
  have e3 : x.nod.text = x.text := rfl
  ((repeat' (first|refine zza ?_|refine zc9 ?_|refine zzb fun w hw => ?_|refine zzh fun _ => ?_|refine zzi fun _ _ => ?_|refine zzj (fun _ => ?_) fun _ => ?_)); (repeat' (refine CW_seq ?_; (repeat' (first|refine zza ?_|refine zc9 ?_|refine zzb fun w hw => ?_|refine zzh fun _ => ?_|refine zzi fun _ _ => ?_|refine zzj (fun _ => ?_) fun _ => ?_)))))
  rename_i b3 b6 b7
  refine WL_callS (r := [blk b7 32 (nodE x).toArray, zB b6, cxB b3 z be]) be bm fu hstep (fun hpos => ?_) (fun h0 => ?_)
  case refine_2 =>
    ((repeat' (first|refine zza ?_|refine zc9 ?_|refine zzb fun w hw => ?_|refine zzh fun _ => ?_|refine zzi fun _ _ => ?_|refine zzj (fun _ => ?_) fun _ => ?_)); (repeat' (refine CW_seq ?_; (repeat' (first|refine zza ?_|refine zc9 ?_|refine zzb fun w hw => ?_|refine zzh fun _ => ?_|refine zzi fun _ _ => ?_|refine zzj (fun _ => ?_) fun _ => ?_)))))
    exact EGot.none (c := 8) (by unfold leafR stepR; rw [if_pos h0]) (by decide) (hw.ent zent)
  clear hstep
  have hI3 : I64 (fu - 1) := ⟨by have := hI.1; omega, by omega⟩
  have hZ : leafR env al om x.nod fu = leafR env al om x.nod fu := rfl
  conv at hZ => rhs; unfold leafR; rw [stepR_pos hpos, e1, e2, e3]
  generalize leafR env al om x.nod fu = Z at *
  rcases ho with h1 | h1 | h1 | ⟨h1, hdd⟩
  · rw [if_pos h1] at hZ
    have hnums := fun W (hW : Rd.sub G [] W) => eval_Nums x.nums.p x.nums.c x.nums.xs hxG.numsL hxG.numsR G W (fun a v e => (hW a v e).1) hxG.nums
    ((repeat' (first|refine zza ?_|refine zc9 ?_|refine zzb fun w hw => ?_|refine zzh fun _ => ?_|refine zzi fun _ _ => ?_|refine zzj (fun _ => ?_) fun _ => ?_)); (repeat' (refine CW_seq ?_; (repeat' (first|refine zza ?_|refine zc9 ?_|refine zzb fun w hw => ?_|refine zzh fun _ => ?_|refine zzi fun _ _ => ?_|refine zzj (fun _ => ?_) fun _ => ?_)))))
    refine WL_callT (r := [evs be bm (fu - 1), zB b6]) zent rfl rfl rfl hnums ?_
    rintro v G' ⟨hv, hvG⟩ g
    clear hnums
    ((repeat' (first|refine zza ?_|refine zc9 ?_|refine zzb fun w hw => ?_|refine zzh fun _ => ?_|refine zzi fun _ _ => ?_|refine zu1 ?_|refine zu2 ?_|refine zu3 ?_|refine zu4 fun _ => ?_|refine zzj (fun _ => ?_) fun _ => ?_)); (repeat' (refine CW_seq ?_; (repeat' (first|refine zza ?_|refine zc9 ?_|refine zzb fun w hw => ?_|refine zzh fun _ => ?_|refine zzi fun _ _ => ?_|refine zu1 ?_|refine zu2 ?_|refine zu3 ?_|refine zu4 fun _ => ?_|refine zzj (fun _ => ?_) fun _ => ?_)))))
    refine EGot.some (hZ.trans (by rw [hv])) hvG ?_ hI3 g (hw.ent zent)
    rw [hv]
    unfold numsA
    split
    · rename_i hl; exact fun _ h => by rw [show x.nums.xs = [] from h] at hl; cases hl
    · exact fun h => by cases h
  · rw [if_neg (by omega), if_pos h1] at hZ
    have htext := fun W (hW : Rd.sub G [] W) => hG.text x (List.mem_of_getElem? hx) h1 G W (fun a v e => (hW a v e).1)
    ((repeat' (first|refine zza ?_|refine zc9 ?_|refine zzb fun w hw => ?_|refine zzh fun _ => ?_|refine zzi fun _ _ => ?_|refine zzj (fun _ => ?_) fun _ => ?_)); (repeat' (refine CW_seq ?_; (repeat' (first|refine zza ?_|refine zc9 ?_|refine zzb fun w hw => ?_|refine zzh fun _ => ?_|refine zzi fun _ _ => ?_|refine zzj (fun _ => ?_) fun _ => ?_)))))
    refine WL_callT (r := [evs be bm (fu - 1), zB b6]) zent rfl rfl rfl htext ?_
    rintro v G' ⟨hv, hvG⟩ g
    clear htext
    ((repeat' (first|refine zza ?_|refine zc9 ?_|refine zzb fun w hw => ?_|refine zzh fun _ => ?_|refine zzi fun _ _ => ?_|refine zu1 ?_|refine zu2 ?_|refine zu3 ?_|refine zu4 fun _ => ?_|refine zzj (fun _ => ?_) fun _ => ?_)); (repeat' (refine CW_seq ?_; (repeat' (first|refine zza ?_|refine zc9 ?_|refine zzb fun w hw => ?_|refine zzh fun _ => ?_|refine zzi fun _ _ => ?_|refine zu1 ?_|refine zu2 ?_|refine zu3 ?_|refine zu4 fun _ => ?_|refine zzj (fun _ => ?_) fun _ => ?_)))))
    refine EGot.some (hZ.trans (by rw [hv])) hvG ?_ hI3 g (hw.ent zent)
    rw [hv]
    unfold textA
    split
    · rename_i hl; exact fun _ h => by rw [show charsL x.text = [] from h] at hl; cases hl
    · exact fun h => by cases h
  · rw [if_neg (by omega), if_neg (by omega), if_neg (by omega), if_neg (by omega), if_pos h1] at hZ
    have henv := hS.env x.text
    (repeat' (first|refine zza ?_|refine zzb fun w hw => ?_|refine zzh fun _ => ?_|refine zzi fun _ _ => ?_|refine zzj (fun _ => ?_) fun _ => ?_))
    (repeat' (refine CW_seq ?_; (repeat' (first|refine zza ?_|refine zzb fun w hw => ?_|refine zzh fun _ => ?_|refine zzi fun _ _ => ?_|refine zzj (fun _ => ?_) fun _ => ?_))))
    cases hsk : seekV ks x.text with
    | none =>
      rw [hsk] at henv
      rw [show env x.text = none from henv] at hZ
      refine CW_perm 13 [0, 1, 2, 3, 4, 5, 6, 7, 8, 9, 10, 11, 12] [ro w fp G, evs be bm (fu - 1), blk b7 32 (nodE x).toArray, zB b6, cxB b3 z be] [] zcov (pm := []) Ent.refl (by kernel_rfl) (by decide +kernel) (by kernel_rfl) ?_
      (refine WP_op rfl rfl rfl zyi ?_)
      (refine WP_op rfl rfl rfl zyi ?_)
      (refine WP_op rfl rfl rfl zyi ?_)
      (refine WP_op rfl rfl rfl zyi ?_)
      (refine WP_op rfl rfl rfl zyi ?_)
      (refine WP_op rfl rfl rfl zyi ?_)
      (refine WP_op rfl rfl rfl zyi ?_)
      refine WP_op rfl rfl rfl (y_look0 hsk rfl rfl (fun W hW => hnm W hW.keep)) ?_
      (refine WP_op rfl rfl rfl zyi ?_)
      (refine WP_op rfl rfl rfl zyi ?_)
      (refine WP_op rfl rfl rfl zyi ?_)
      refine WP_alloc rfl (by decide +kernel) ⟨[], Ent.refl⟩ rfl rfl fun b8 => ?_
      refine WP_storeW (pm := [_]) rfl (by decide +kernel) rfl rfl rfl .here Ent.refl rfl rfl rfl rfl ?_
      refine WP_end ?_
      ((repeat' (first|refine zza ?_|refine zc9 ?_|refine zzb fun w hw => ?_|refine zzh fun _ => ?_|refine zzi fun _ _ => ?_|refine zu1 ?_|refine zu2 ?_|refine zu3 ?_|refine zu4 fun _ => ?_|refine zzj (fun _ => ?_) fun _ => ?_)); (repeat' (refine CW_seq ?_; (repeat' (first|refine zza ?_|refine zc9 ?_|refine zzb fun w hw => ?_|refine zzh fun _ => ?_|refine zzi fun _ _ => ?_|refine zu1 ?_|refine zu2 ?_|refine zu3 ?_|refine zu4 fun _ => ?_|refine zzj (fun _ => ?_) fun _ => ?_)))))
      exact EGot.none hZ (by decide) (hw.ent zent)
    | some u =>
      rw [hsk] at henv
      obtain ⟨mv', rfl, hmG, hm1, hme⟩ := henv
      rw [hme] at hZ
      refine CW_perm 13 [0, 1, 2, 3, 4, 5, 6, 7, 8, 9, 10, 11, 12] [ro w fp G, evs be bm (fu - 1), blk b7 32 (nodE x).toArray, zB b6, cxB b3 z be] [] zcov (pm := []) Ent.refl (by kernel_rfl) (by decide +kernel) (by kernel_rfl) ?_
      (refine WP_op rfl rfl rfl zyi ?_)
      (refine WP_op rfl rfl rfl zyi ?_)
      (refine WP_op rfl rfl rfl zyi ?_)
      (refine WP_op rfl rfl rfl zyi ?_)
      (refine WP_op rfl rfl rfl zyi ?_)
      (refine WP_op rfl rfl rfl zyi ?_)
      (refine WP_op rfl rfl rfl zyi ?_)
      refine WP_op rfl rfl rfl (y_look1 hsk rfl rfl (fun W hW => hnm W hW.keep)) ?_
      (refine WP_op rfl rfl rfl zyi ?_)
      (refine WP_op rfl rfl rfl zyi ?_)
      (refine WP_op rfl rfl rfl zyi ?_)
      refine WP_alloc rfl (by decide +kernel) ⟨[], Ent.refl⟩ rfl rfl fun b8 => ?_
      refine WP_storeW (pm := [_]) rfl (by decide +kernel) rfl rfl rfl .here Ent.refl rfl rfl rfl rfl ?_
      refine WP_end ?_
      ((repeat' (first|refine zza ?_|refine zc9 ?_|refine zzb fun w hw => ?_|refine zzh fun _ => ?_|refine zzi fun _ _ => ?_|refine zu1 ?_|refine zu2 ?_|refine zu3 ?_|refine zu4 fun _ => ?_|refine zzj (fun _ => ?_) fun _ => ?_)); (repeat' (refine CW_seq ?_; (repeat' (first|refine zza ?_|refine zc9 ?_|refine zzb fun w hw => ?_|refine zzh fun _ => ?_|refine zzi fun _ _ => ?_|refine zu1 ?_|refine zu2 ?_|refine zu3 ?_|refine zu4 fun _ => ?_|refine zzj (fun _ => ?_) fun _ => ?_)))))
      exact EGot.some hZ hmG hm1 hI3 (Rd.grow_refl _ _) (hw.ent zent)
  · rcases h1 with h1 | h1
    · rw [if_neg (by omega), if_neg (by omega), if_pos h1] at hZ
      have hal := hC.alpha
      cases al with
      | none =>
        obtain ⟨pb, nb, cb, k', n', qa, zo, zd⟩ := z
        dsimp only [AlOk] at hal
        subst hal
        dsimp only
        ((repeat' (first|refine zza ?_|refine zc9 ?_|refine zzb fun w hw => ?_|refine zzh fun _ => ?_|refine zzi fun _ _ => ?_|refine zzj (fun _ => ?_) fun _ => ?_)); (repeat' (refine CW_seq ?_; (repeat' (first|refine zza ?_|refine zc9 ?_|refine zzb fun w hw => ?_|refine zzh fun _ => ?_|refine zzi fun _ _ => ?_|refine zzj (fun _ => ?_) fun _ => ?_)))))
        refine WL_op rfl rfl (y_eqP rfl) ?_
        ((repeat' (first|refine zza ?_|refine zc9 ?_|refine zzb fun w hw => ?_|refine zzh fun _ => ?_|refine zzi fun _ _ => ?_|refine zzj (fun _ => ?_) fun _ => ?_)); (repeat' (refine CW_seq ?_; (repeat' (first|refine zza ?_|refine zc9 ?_|refine zzb fun w hw => ?_|refine zzh fun _ => ?_|refine zzi fun _ _ => ?_|refine zzj (fun _ => ?_) fun _ => ?_)))))
        exact EGot.none hZ (by decide) (hw.ent zent)
      | some a =>
        obtain ⟨ba, ma, hq, hrow2, hmG, rfl, hm1⟩ := hal
        obtain ⟨pb, nb, cb, k', n', qa, zo, zd⟩ := z
        dsimp only at hq
        subst hq
        dsimp only
        ((repeat' (first|refine zza ?_|refine zc9 ?_|refine zzb fun w hw => ?_|refine zzh fun _ => ?_|refine zzi fun _ _ => ?_|refine zzj (fun _ => ?_) fun _ => ?_)); (repeat' (refine CW_seq ?_; (repeat' (first|refine zza ?_|refine zc9 ?_|refine zzb fun w hw => ?_|refine zzh fun _ => ?_|refine zzi fun _ _ => ?_|refine zzj (fun _ => ?_) fun _ => ?_)))))
        refine WL_op rfl rfl (y_eqP rfl) ?_
        ((repeat' (first|refine zza ?_|refine zc9 ?_|refine zzb fun w hw => ?_|refine zzh fun _ => ?_|refine zzi fun _ _ => ?_|refine zu1 ?_|refine zu2 ?_|refine zu3 ?_|refine zu4 fun _ => ?_|refine zzj (fun _ => ?_) fun _ => ?_)); (repeat' (refine CW_seq ?_; (repeat' (first|refine zza ?_|refine zc9 ?_|refine zzb fun w hw => ?_|refine zzh fun _ => ?_|refine zzi fun _ _ => ?_|refine zu1 ?_|refine zu2 ?_|refine zu3 ?_|refine zu4 fun _ => ?_|refine zzj (fun _ => ?_) fun _ => ?_)))))
        exact EGot.some hZ hmG hm1 hI3 (Rd.grow_refl _ _) (hw.ent zent)
    · rw [if_neg (by omega), if_neg (by omega), if_neg (by omega), if_pos h1] at hZ
      ((repeat' (first|refine zza ?_|refine zc9 ?_|refine zzb fun w hw => ?_|refine zzh fun _ => ?_|refine zzi fun _ _ => ?_|refine zu1 ?_|refine zu2 ?_|refine zu3 ?_|refine zu4 fun _ => ?_|refine zzj (fun _ => ?_) fun _ => ?_)); (repeat' (refine CW_seq ?_; (repeat' (first|refine zza ?_|refine zc9 ?_|refine zzb fun w hw => ?_|refine zzh fun _ => ?_|refine zzi fun _ _ => ?_|refine zu1 ?_|refine zu2 ?_|refine zu3 ?_|refine zu4 fun _ => ?_|refine zzj (fun _ => ?_) fun _ => ?_)))))
      exact EGot.some (hZ.trans (by rw [hC.omE])) hC.omega (by rw [hC.omE]; exact hC.om1 hdd) hI3 (Rd.grow_refl _ _) (hw.ent zent)
end Go.Proofs.YtllgkdkjcbohcaaGreatDoor
