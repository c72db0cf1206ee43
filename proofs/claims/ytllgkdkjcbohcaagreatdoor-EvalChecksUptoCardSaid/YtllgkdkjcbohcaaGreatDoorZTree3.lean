/-
  tree: a walker that fails; the function that a node has, its parts being read.
-/
import Derived.Test.YtllgkdkjcbohcaaGreatDoorZGo
import Derived.Test.YtllgkdkjcbohcaaGreatDoorZTree2
import Derived.Test.YtllgkdkjcbohcaaGreatDoorZSpell
import Derived.Test.YtllgkdkjcbohcaaGreatDoorZPerm
import Derived.Test.YtllgkdkjcbohcaaGreatDoorZRetC
import Derived.Test.YtllgkdkjcbohcaaGreatDoorZTokRow
namespace Go.Proofs.YtllgkdkjcbohcaaGreatDoor
open Go.RowKit
/-- the walker: the nodes, where it is, within how many functions -/
abbrev wkr (b : Nat) (p : Option Addr) (n c : Nat) (k d : Nat) : HP := blk b 142 #[.slice p n c, .int .i64 (k : Int), .int .i64 (d : Int)]
set_option maxRecDepth 100000 in
theorem tree_fail (b : Nat) (p : Option Addr) (n c k d : Nat) (G : Rd) (w : World) (fp : List Nat) (hO : Own [wkr b p n c k d] fp w) (hS : Rd.sub G fp w) :
    Calls Tryz.prog 75 #[.pointer (some ⟨b, 0, none⟩)] w fun e w' => e = .panicked (wrongP k) ∧ Keep w fp w' := by
  refine enterR (args := [_]) hS hO Tryz.func75 rfl Tryz.ntmps75 (by simp) ?_
  (repeat' (first|refine zza ?_|refine zc9 ?_|refine zzb fun w hw => ?_|refine zzh fun _ => ?_|refine zzi fun _ _ => ?_|refine zzj (fun _ => ?_) fun _ => ?_))
  exact ⟨rfl, hw.keep⟩
theorem own_wkr {b n c k d : Nat} {p : Option Addr} {w : World} {fp : List Nat} (h : Own [wkr b p n c k d] fp w) : fp = [b] := by
  obtain ⟨f1, f2, rfl, ⟨rfl, _⟩, h2, _⟩ := h
  simp only [Own] at h2
  subst h2
  rfl
/-- the nodes that are left, as plain ones -/
abbrev nodsL (L : List NodM) (k : Nat) : List Nod := (L.drop k).map NodM.nod
/-- what an expression's reading tells -/
def ExpGot (b : Nat) (p : Option Addr) (c : Nat) (L : List NodM) (d : Nat) (G : Rd) (w : World) (fp : List Nat) (k : Nat) (e : Ending) (w' : World) : Prop :=
  (∃ z : Rd × Ex × Nat × Value, (exF d (nodsL L k) = some (z.2.1, nodsL L z.2.2.1) ∧ k < z.2.2.1 ∧ z.2.2.1 ≤ L.length ∧ z.2.1.rep z.1 z.2.2.2) ∧ e = .returned z.2.2.2 ∧ Rd.grow w G z.1 ∧ Holds w fp (ro w fp z.1 :: [wkr b p L.length c z.2.2.1 d]) w') ∨
  (∃ y : Int, exF d (nodsL L k) = none ∧ e = .panicked (wrongP y) ∧ Rd.grow w G G ∧ Holds w fp (ro w fp G :: []) w')
/-- what a function's reading tells -/
def FunGot (b : Nat) (p : Option Addr) (c : Nat) (L : List NodM) (d : Nat) (n : Nod) (G : Rd) (w : World) (fp : List Nat) (k : Nat) (e : Ending) (w' : World) : Prop :=
  (∃ z : Rd × Exs × Nat × SlV Value, (funF d n (nodsL L k) = some (z.2.1, nodsL L z.2.2.1) ∧ k ≤ z.2.2.1 ∧ z.2.2.1 ≤ L.length ∧ z.2.1.rep z.1 z.2.2.2.xs ∧ Row encV 1 z.1 z.2.2.2.p z.2.2.2.c z.2.2.2.xs) ∧
    e = .returned (.agg #[.int .i64 n.aop, .int .i64 n.af, .int .i64 n.ag, .int .i64 n.n, .slice z.2.2.2.p z.2.2.2.xs.length z.2.2.2.c]) ∧ Rd.grow w G z.1 ∧ Holds w fp (ro w fp z.1 :: [wkr b p L.length c z.2.2.1 d]) w') ∨
  (∃ y : Int, funF d n (nodsL L k) = none ∧ e = .panicked (wrongP y) ∧ Rd.grow w G G ∧ Holds w fp (ro w fp G :: []) w')
/-- the contract of reading an expression where at most m nodes are left -/
def ExpC (m : Nat) (p : Option Addr) (c : Nat) (L : List NodM) : Prop := ∀ (b k d : Nat) (G : Rd) (w : World) (fp : List Nat), L.length - k ≤ m → k ≤ L.length → d ≤ k → Row nodE 7 G p c L → (∀ x ∈ L, NodG G x) → Own [wkr b p L.length c k d] fp w → Rd.sub G fp w → (∀ W, Keep w fp W → GlobA W) →
  Calls Tryz.prog 74 #[.pointer (some ⟨b, 0, none⟩)] w (ExpGot b p c L d G w fp k)
def FunC (m : Nat) (p : Option Addr) (c : Nat) (L : List NodM) : Prop := ∀ (b k d : Nat) (x : NodM) (G : Rd) (w : World) (fp : List Nat), L.length - k ≤ m → k ≤ L.length → d + 1 ≤ k → 0 ≤ x.n → I64 x.n → (x.aop = 6 ∨ x.n = 0) → Row nodE 7 G p c L → (∀ x ∈ L, NodG G x) → Own [wkr b p L.length c k d] fp w → Rd.sub G fp w → (∀ W, Keep w fp W → GlobA W) →
  Calls Tryz.prog 125 #[.pointer (some ⟨b, 0, none⟩), .agg (nodE x).toArray] w (FunGot b p c L d x.nod G w fp k)
theorem nods_len (L : List NodM) (k : Nat) : (nodsL L k).length = L.length - k := by simp
set_option maxHeartbeats 8000000 in
set_option maxRecDepth 100000 in
theorem tree_function (m : Nat) (p : Option Addr) (c : Nat) (L : List NodM) (hd0 : L.length ≤ 400) (hE : ExpC m p c L) : FunC m p c L := by
  intro b k d x G w fp hm hk hdk hn0 hn64 h6n hR hB hO hS hGl
  obtain ⟨op, aop, af, ag, n, nums, text⟩ := x
  dsimp only [NodM.nod] at hn0 hn64 h6n ⊢
  dsimp only [nodE]
  obtain ⟨N, rfl⟩ := Int.eq_ofNat_of_zero_le hn0
  unfold I64 at hn64
  refine enterR (args := [_, _]) hS hO Tryz.func125 rfl Tryz.ntmps125 (by simp) ?_
  have hfp := own_wkr hO
  clear hO hS
  by_cases h6 : aop = 6
  · subst h6
    have hfun : ∀ r, funF d ⟨op, 6, af, ag, (N : Int), nums.xs, text⟩ r = exsF (d + 1) (2 * N + 1) r := fun r => by
      unfold funF bodyN; rw [if_neg (by simp), if_pos rfl]; rfl
    (repeat' (first|refine zza ?_|refine zc9 ?_|refine zzb fun w hw => ?_|refine zzh fun _ => ?_|refine zzi fun _ _ => ?_|refine zzj (fun _ => ?_) fun _ => ?_))
    rename_i b3 b4 b5
    refine CW_ent (m' := [blk b5 201 #[.int .i64 6, .int .i64 af, .int .i64 ag, .int .i64 (N : Int), .slice none 0 0], sl 90 1 none 0 0 [], wkr b p L.length c k (d + 1), ro w fp G, blk b3 32 #[.int .i64 op, .int .i64 6, .int .i64 af, .int .i64 ag, .int .i64 (N : Int), .slice nums.p nums.xs.length nums.c, .string ⟨text.toArray⟩], blk b4 201 #[.int .i64 0, .int .i64 0, .int .i64 0, .int .i64 0, .slice none 0 0]]) (Ent.consK (k := Ent.nilown (Ent.consK (k := Ent.cons zpk (Ent.consK (k := Ent.consK (k := Ent.nil) zpk) zpk)) zpk)) zpk) ?_
    refine CW_loopK [(0,_),(3,_),(4,_),(5,_),(33,_)] zcov (fun x : Nat × Nat × Rd × Exs × Option Addr × Nat × List Value => [(34, .int .i64 (x.1 : Nat))]) (fun x => [blk b5 201 #[.int .i64 6, .int .i64 af, .int .i64 ag, .int .i64 (N : Int), .slice x.2.2.2.2.1 (2 * x.1) x.2.2.2.2.2.1], sl 90 1 x.2.2.2.2.1 (2 * x.1) x.2.2.2.2.2.1 x.2.2.2.2.2.2, wkr b p L.length c x.2.1 (d + 1), ro w fp x.2.2.1, blk b3 32 #[.int .i64 op, .int .i64 6, .int .i64 af, .int .i64 ag, .int .i64 (N : Int), .slice nums.p nums.xs.length nums.c, .string ⟨text.toArray⟩], blk b4 201 #[.int .i64 0, .int .i64 0, .int .i64 0, .int .i64 0, .slice none 0 0]]) (fun x => x.1 ≤ N ∧ k ≤ x.2.1 ∧ x.2.1 ≤ L.length ∧ exsF (d + 1) (2 * x.1) (nodsL L k) = some (x.2.2.2.1, nodsL L x.2.1) ∧ x.2.2.2.1.rep x.2.2.1 x.2.2.2.2.2.2 ∧ Rd.grow w G x.2.2.1) (fun x => N - x.1) (0, k, G, .nil, none, 0, []) ⟨Nat.zero_le _, Nat.le_refl _, hk, exsF_zero _ _, rfl, Rd.grow_refl _ _⟩ zcov zent ?_
    · rintro ⟨i, ki, Gi, bs, sp, sc, vs⟩ ⟨hi, hki, hkiL, hex, hrep, hgr'⟩
      dsimp only at hi hki hkiL hex hrep hgr' ⊢
      by_cases hlt : i < N
      · have hbad : ∀ q, 2 * i < q → q ≤ 2 * i + 2 → exsF (d + 1) q (nodsL L k) = none → funF d ⟨op, 6, af, ag, (N : Int), nums.xs, text⟩ (nodsL L k) = none := fun q h1 h2 h => by
          rw [hfun]; exact exsF_stop h (by omega)
        have hs1 := exsF_add (d := d + 1) (2 * i) 1 (nodsL L k)
        have hs2 := exsF_add (d := d + 1) (2 * i) 2 (nodsL L k)
        rw [hex] at hs1 hs2
        simp only at hs1 hs2
        rw [exsF_one] at hs1
        rw [exsF_succ (d + 1) 1 (nodsL L ki)] at hs2
        have hcnt := exsF_len hex
        rw [nods_len, nods_len] at hcnt
        (repeat' (first|refine zza ?_|refine zzb fun w hw => ?_|refine zzh fun _ => ?_|refine zzi fun _ _ => ?_|refine zzj (fun _ => ?_) fun _ => ?_))
        refine CW_perm 8 [0, 1, 2, 4, 3, 5, 6, 7] [blk b5 201 #[.int .i64 6, .int .i64 af, .int .i64 ag, .int .i64 (N : Int), .slice sp (2 * i) sc], blk b3 32 #[.int .i64 op, .int .i64 6, .int .i64 af, .int .i64 ag, .int .i64 (N : Int), .slice nums.p nums.xs.length nums.c, .string ⟨text.toArray⟩], blk b4 201 #[.int .i64 0, .int .i64 0, .int .i64 0, .int .i64 0, .slice none 0 0]] [] Cov.nil (pm := [sl 90 1 sp (2 * i) sc vs, wkr b p L.length c ki (d + 1), ro w fp Gi]) zent (by kernel_rfl) (by decide +kernel) (by kernel_rfl) ?_
        (refine WP_op rfl rfl rfl zyi ?_)
        (refine WP_op rfl rfl rfl zyi ?_)
        (refine WP_op rfl rfl rfl zyi ?_)
        (refine WP_op rfl rfl rfl zyi ?_)
        refine WP_callG (m1 := [wkr b p L.length c ki (d + 1)]) (r := [sl 90 1 sp (2 * i) sc vs, blk b5 201 #[.int .i64 6, .int .i64 af, .int .i64 ag, .int .i64 (N : Int), .slice sp (2 * i) sc], blk b3 32 #[.int .i64 op, .int .i64 6, .int .i64 af, .int .i64 ag, .int .i64 (N : Int), .slice nums.p nums.xs.length nums.c, .string ⟨text.toArray⟩], blk b4 201 #[.int .i64 0, .int .i64 0, .int .i64 0, .int .i64 0, .slice none 0 0]]) (X := Rd × Ex × Nat × Value) (Y := Int) (V := fun z => z.2.2.2) (Gx := fun z => z.1) (M := fun z => [wkr b p L.length c z.2.2.1 (d + 1)]) (I := fun z => exF (d + 1) (nodsL L ki) = some (z.2.1, nodsL L z.2.2.1) ∧ ki < z.2.2.1 ∧ z.2.2.1 ≤ L.length ∧ z.2.1.rep z.1 z.2.2.2) (C := wrongP) (Gy := fun _ => Gi) (MP := fun _ => []) (J := fun _ => exF (d + 1) (nodsL L ki) = none) rfl zent (by decide +kernel) rfl rfl rfl (fun W fp' hW hO hS hF => hE b ki (d + 1) Gi W fp' (by omega) (by omega) (by omega) (hR.mono hgr'.1) (fun x hx => (hB x hx).mono hgr'.1) hO hS (fun W' hk' => hGl W' (hW.keep.tr hk' hF))) (fun z _ => ⟨[], zent⟩) ?_ ?_
        case refine_2 =>
          rintro y hno _
          rw [hno] at hs1
          have hnone := hbad _ (by omega) (by omega) hs1
          (repeat' (first|refine zza ?_|refine zc9 ?_|refine zzb fun w hw => ?_|refine zzh fun _ => ?_|refine zzi fun _ _ => ?_|refine zzj (fun _ => ?_) fun _ => ?_))
          exact .inr ⟨y, hnone, rfl, Rd.grow_refl _ _, hw.ent (Ent.roLe hgr'.1 zpk Ent.nil)⟩
        rintro ⟨G1, e1, k1, v1⟩ ⟨he1, hk1, hk1L, hr1⟩ hg1
        dsimp only at he1 hk1 hk1L hr1 hg1 ⊢
        obtain ⟨T1, u1, rfl⟩ := Ex.rep_iface hr1
        rw [he1] at hs2
        simp only at hs2
        rw [exsF_one] at hs2
        refine WP_callG (m1 := [wkr b p L.length c k1 (d + 1)]) (r := [sl 90 1 sp (2 * i) sc vs, blk b5 201 #[.int .i64 6, .int .i64 af, .int .i64 ag, .int .i64 (N : Int), .slice sp (2 * i) sc], blk b3 32 #[.int .i64 op, .int .i64 6, .int .i64 af, .int .i64 ag, .int .i64 (N : Int), .slice nums.p nums.xs.length nums.c, .string ⟨text.toArray⟩], blk b4 201 #[.int .i64 0, .int .i64 0, .int .i64 0, .int .i64 0, .slice none 0 0]]) (X := Rd × Ex × Nat × Value) (Y := Int) (V := fun z => z.2.2.2) (Gx := fun z => z.1) (M := fun z => [wkr b p L.length c z.2.2.1 (d + 1)]) (I := fun z => exF (d + 1) (nodsL L k1) = some (z.2.1, nodsL L z.2.2.1) ∧ k1 < z.2.2.1 ∧ z.2.2.1 ≤ L.length ∧ z.2.1.rep z.1 z.2.2.2) (C := wrongP) (Gy := fun _ => G1) (MP := fun _ => []) (J := fun _ => exF (d + 1) (nodsL L k1) = none) rfl zent (by decide +kernel) rfl rfl rfl (fun W fp' hW hO hS hF => hE b k1 (d + 1) G1 W fp' (by omega) (by omega) (by omega) ((hR.mono hgr'.1).mono hg1.1) (fun x hx => ((hB x hx).mono hgr'.1).mono hg1.1) hO hS (fun W' hk' => hGl W' (hW.keep.tr hk' hF))) (fun z _ => ⟨[], zent⟩) ?_ ?_
        case refine_2 =>
          rintro y hno _
          rw [hno] at hs2
          have hnone := hbad _ (by omega) (by omega) hs2
          (repeat' (first|refine zza ?_|refine zc9 ?_|refine zzb fun w hw => ?_|refine zzh fun _ => ?_|refine zzi fun _ _ => ?_|refine zzj (fun _ => ?_) fun _ => ?_))
          exact .inr ⟨y, hnone, rfl, Rd.grow_refl _ _, hw.ent (Ent.roLe (Rd.le_trans hgr'.1 hg1.1) zpk Ent.nil)⟩
        rintro ⟨G2, e2, k2, v2⟩ ⟨he2, hk2, hk2L, hr2⟩ hg2
        dsimp only at he2 hk2 hk2L hr2 hg2 ⊢
        obtain ⟨T2, u2, rfl⟩ := Ex.rep_iface hr2
        rw [he2] at hs2
        simp only at hs2
        clear hs1 hbad
        have hi400 : 2 * i ≤ 400 := by omega
        apply WP_bslice (hk := rfl) (pm := [ro w fp G2, wkr b p L.length c k2 (d + 1), sl 90 1 sp (2 * i) sc vs]) (he := zent) (hso := by decide +kernel) (hx := rfl) (hl := rfl) (hc := rfl) (hs := rfl) (h0 := rfl) (hg := rfl) (hn := rfl)
        intro bb
        apply WP_append (hk := rfl) (hso := by decide +kernel) (hx := rfl) (hy := rfl) (he := rfl) (hp := .there (.there (.there .here))) (hp2 := .here) (pm := [ro w fp G2, wkr b p L.length c k2 (d + 1)]) (hr := zent) (hl := rfl) (h1' := rfl) (hmax := by omega) (hmax2 := by omega) (hg := rfl) (hn := rfl)
        intro q c2
        refine WP_end ?_
        have e22 : 2 * i + 2 = 2 * (i + 1) := by omega
        rw [e22] at hs2 ⊢
        (repeat' (first|refine zza ?_|refine zc9 ?_|refine zzb fun w hw => ?_|refine zzh fun _ => ?_|refine zzi fun _ _ => ?_|refine zzj (fun _ => ?_) fun _ => ?_))
        refine EX_loop' (i + 1, k2, G2, bs.app (.cons e1 (.cons e2 .nil)), q, c2, vs ++ [.iface T1 u1, .iface T2 u2]) ⟨zcov, ?_, by dsimp only; omega, by dsimp only; omega, by dsimp only; omega, hk2L, hs2, Exs.rep_app (Exs.rep_mono (Rd.le_trans hg1.1 hg2.1) hrep) ⟨_, _, rfl, Ex.rep_mono hg2.1 hr1, Exs.rep_one hr2⟩, Rd.grow_tr hgr' (Rd.grow_tr hg1 hg2)⟩
        dsimp only
        exact zent
      · have hiN : i = N := by omega
        subst hiN
        have hs1 := exsF_add (d := d + 1) (2 * i) 1 (nodsL L k)
        rw [hex] at hs1
        simp only at hs1
        rw [exsF_one, ← hfun] at hs1
        have hcnt := exsF_len hex
        rw [nods_len, nods_len] at hcnt
        have hvl : ∀ v : Value, (vs ++ [v]).length = 2 * i + 1 := fun v => by rw [List.length_append, Exs.rep_len hrep, (exsF_iff.1 hex).2.1]; rfl
        clear hfun hex
        have hi400 : 2 * i ≤ 400 := by omega
        (repeat' (first|refine zza ?_|refine zzb fun w hw => ?_|refine zzh fun _ => ?_|refine zzi fun _ _ => ?_|refine zzj (fun _ => ?_) fun _ => ?_))
        refine CW_perm 6 [0, 1, 2, 3, 4, 5] [blk b5 201 #[.int .i64 6, .int .i64 af, .int .i64 ag, .int .i64 (i : Int), .slice sp (2 * i) sc], blk b3 32 #[.int .i64 op, .int .i64 6, .int .i64 af, .int .i64 ag, .int .i64 (i : Int), .slice nums.p nums.xs.length nums.c, .string ⟨text.toArray⟩], blk b4 201 #[.int .i64 0, .int .i64 0, .int .i64 0, .int .i64 0, .slice none 0 0]] [] Cov.nil (pm := [sl 90 1 sp (2 * i) sc vs, wkr b p L.length c ki (d + 1), ro w fp Gi]) zent (by kernel_rfl) (by decide +kernel) (by kernel_rfl) ?_
        (refine WP_op rfl rfl rfl zyi ?_)
        (refine WP_op rfl rfl rfl zyi ?_)
        (refine WP_op rfl rfl rfl zyi ?_)
        refine WP_callG (m1 := [wkr b p L.length c ki (d + 1)]) (r := [sl 90 1 sp (2 * i) sc vs, blk b5 201 #[.int .i64 6, .int .i64 af, .int .i64 ag, .int .i64 (i : Int), .slice sp (2 * i) sc], blk b3 32 #[.int .i64 op, .int .i64 6, .int .i64 af, .int .i64 ag, .int .i64 (i : Int), .slice nums.p nums.xs.length nums.c, .string ⟨text.toArray⟩], blk b4 201 #[.int .i64 0, .int .i64 0, .int .i64 0, .int .i64 0, .slice none 0 0]]) (X := Rd × Ex × Nat × Value) (Y := Int) (V := fun z => z.2.2.2) (Gx := fun z => z.1) (M := fun z => [wkr b p L.length c z.2.2.1 (d + 1)]) (I := fun z => exF (d + 1) (nodsL L ki) = some (z.2.1, nodsL L z.2.2.1) ∧ ki < z.2.2.1 ∧ z.2.2.1 ≤ L.length ∧ z.2.1.rep z.1 z.2.2.2) (C := wrongP) (Gy := fun _ => Gi) (MP := fun _ => []) (J := fun _ => exF (d + 1) (nodsL L ki) = none) rfl zent (by decide +kernel) rfl rfl rfl (fun W fp' hW hO hS hF => hE b ki (d + 1) Gi W fp' (by omega) (by omega) (by omega) (hR.mono hgr'.1) (fun x hx => (hB x hx).mono hgr'.1) hO hS (fun W' hk' => hGl W' (hW.keep.tr hk' hF))) (fun z _ => ⟨[], zent⟩) ?_ ?_
        case refine_2 =>
          rintro y hno _
          rw [hno] at hs1
          (repeat' (first|refine zza ?_|refine zc9 ?_|refine zzb fun w hw => ?_|refine zzh fun _ => ?_|refine zzi fun _ _ => ?_|refine zzj (fun _ => ?_) fun _ => ?_))
          exact .inr ⟨y, hs1, rfl, Rd.grow_refl _ _, hw.ent (Ent.roLe hgr'.1 zpk Ent.nil)⟩
        rintro ⟨G1, e1, k1, v1⟩ ⟨he1, hk1, hk1L, hr1⟩ hg1
        dsimp only at he1 hk1 hk1L hr1 hg1 ⊢
        obtain ⟨T1, u1, rfl⟩ := Ex.rep_iface hr1
        rw [he1] at hs1
        simp only at hs1
        apply WP_bslice (hk := rfl) (pm := [ro w fp G1, wkr b p L.length c k1 (d + 1), sl 90 1 sp (2 * i) sc vs]) (he := zent) (hso := by decide +kernel) (hx := rfl) (hl := rfl) (hc := rfl) (hs := rfl) (h0 := rfl) (hg := rfl) (hn := rfl)
        intro bb
        apply WP_append (hk := rfl) (hso := by decide +kernel) (hx := rfl) (hy := rfl) (he := rfl) (hp := .there (.there (.there .here))) (hp2 := .here) (pm := [ro w fp G1, wkr b p L.length c k1 (d + 1)]) (hr := zent) (hl := rfl) (h1' := rfl) (hmax := by omega) (hmax2 := by omega) (hg := rfl) (hn := rfl)
        intro q c2
        refine WP_end ?_
        have hdd : ((d + 1 : Nat) : Int) - 1 = (d : Int) := by omega
        (repeat' (first|refine zza ?_|refine zc9 ?_|refine zzb fun w hw => ?_|refine zzh fun _ => ?_|refine zzi fun _ _ => ?_|refine zzj (fun _ => ?_) fun _ => ?_))
        rw [hdd] at hw
        obtain ⟨G', g', r', h'⟩ := Holds.toRo (α := Value) (enc := encV) (sz := 1) (fun _ => rfl) (by decide) (xs := vs ++ [Value.iface T1 u1]) (e := 90) (n := 2 * i + 1) (p := q) (c := c2) (r := [wkr b p L.length c k1 d]) (hw.ent (Ent.cons (.there (.there (.there (.there .here)))) (by rw [flat_encV]; exact Ent.cons (.there (.there (.there .here))) (Ent.cons (.there .here) Ent.nil)))) (fun f hf i hi => by rw [own_wkr hf, ← hfp]; exact hi)
        exact .inl ⟨(G', bs.app (.cons e1 .nil), k1, ⟨q, c2, vs ++ [.iface T1 u1]⟩), ⟨hs1, by dsimp only; omega, hk1L, Exs.rep_app (Exs.rep_mono (Rd.le_trans hg1.1 g'.1) hrep) (Exs.rep_one (Ex.rep_mono g'.1 hr1)), r'⟩, by dsimp only; rw [hvl]; rfl, Rd.grow_tr hgr' (Rd.grow_tr hg1 g'), h'⟩
  · have hfun : ∀ r, ¬ (aop = 7 ∧ d = 0) → funF d ⟨op, aop, af, ag, (N : Int), nums.xs, text⟩ r = some (.nil, r) := fun r h => by
      unfold funF bodyN; rw [if_neg h, if_neg h6, exsF_zero]
    by_cases h70 : aop = 7 ∧ d = 0
    · obtain ⟨rfl, rfl⟩ := h70
      have hnone : funF 0 ⟨op, 7, af, ag, (N : Int), nums.xs, text⟩ (nodsL L k) = none := by unfold funF; rw [if_pos ⟨rfl, rfl⟩]
      (repeat' (first|refine zza ?_|refine zc9 ?_|refine zzb fun w hw => ?_|refine zzh fun _ => ?_|refine zzi fun _ _ => ?_|refine zzj (fun _ => ?_) fun _ => ?_))
      (apply WL_callUP1 (h := wkr b p L.length c k 0); (first | exact .here | exact .there .here | exact .there (.there .here) | exact .there (.there (.there .here)) | exact .there (.there (.there (.there .here))) | exact .there (.there (.there (.there (.there .here)))) | exact .there (.there (.there (.there (.there (.there .here)))))); (first | exact .here | exact .there .here | exact .there (.there .here) | exact .there (.there (.there .here)) | exact .there (.there (.there (.there .here))) | exact .there (.there (.there (.there (.there .here)))) | exact .there (.there (.there (.there (.there (.there .here)))))); rfl; rfl; rfl; (intro W fp hO hS; exact tree_fail b p L.length c k 0 G W fp hO hS))
      (repeat' (first|refine zza ?_|refine zc9 ?_|refine zzb fun w hw => ?_|refine zzh fun _ => ?_|refine zzi fun _ _ => ?_|refine zzj (fun _ => ?_) fun _ => ?_))
      exact .inr ⟨(k : Int), hnone, rfl, Rd.grow_refl _ _, hw.ent zent⟩
    · have hf := hfun (nodsL L k) h70
      clear hfun hn0
      have hd : aop = 7 → 0 < d := fun h => by omega
      by_cases h7 : aop = 7
      · subst h7
        have hd := hd rfl
        (repeat' (first|refine zza ?_|refine zc9 ?_|refine zzb fun w hw => ?_|refine zzh fun _ => ?_|refine zzi fun _ _ => ?_|refine zzj (fun _ => ?_) fun _ => ?_))
        exact .inl ⟨(G, .nil, k, ⟨none, 0, []⟩), ⟨hf, Nat.le_refl _, hk, rfl, Row.nil _ _ _⟩, rfl, Rd.grow_refl _ _, hw.ent zent⟩
      · (repeat' (first|refine zza ?_|refine zc9 ?_|refine zzb fun w hw => ?_|refine zzh fun _ => ?_|refine zzi fun _ _ => ?_|refine zzj (fun _ => ?_) fun _ => ?_))
        exact .inl ⟨(G, .nil, k, ⟨none, 0, []⟩), ⟨hf, Nat.le_refl _, hk, rfl, Row.nil _ _ _⟩, rfl, Rd.grow_refl _ _, hw.ent zent⟩
end Go.Proofs.YtllgkdkjcbohcaaGreatDoor
