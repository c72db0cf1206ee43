/-
  tree: the walker reads an expression.
-/
import Derived.Test.YtdmapiaejcnibaaDoorGo
import Derived.Test.YtdmapiaejcnibaaDoorTree3
namespace Go.Proofs.YtdmapiaejcnibaaDoor
open Go.RowKit

theorem nodsL_cons {L : List NodM} {k : Nat} {x : NodM} (h : L[k]? = some x) : nodsL L k = x.nod :: nodsL L (k + 1) := by
  obtain ⟨hl, rfl⟩ := List.getElem?_eq_some_iff.1 h
  unfold nodsL
  rw [List.drop_eq_getElem_cons hl]
  rfl
theorem right67 {n : Nod} (h : rightN n = true) : (n.op = 6 ∨ n.op = 7) → 0 ≤ n.n ∧ (n.aop = 6 ∨ n.n = 0) := fun ho => by
  unfold rightN at h
  simp only [Bool.and_eq_true] at h
  have h2 := h.2
  rw [if_neg (by omega), if_pos ho] at h2
  simp only [Bool.and_eq_true, decide_eq_true_eq] at h2
  omega
theorem right8 {n : Nod} (h : rightN n = true) (ho : n.op = 8) : 0 < n.n := by
  unfold rightN at h
  simp only [Bool.and_eq_true] at h
  have h2 := h.2
  rw [if_pos ho] at h2
  simp only [decide_eq_true_eq] at h2
  omega
set_option maxHeartbeats 8000000 in
set_option maxRecDepth 100000 in
theorem tree_expression (p : Option Addr) (c : Nat) (L : List NodM) (hd0 : L.length ≤ 400) : ∀ m, ExpC m p c L := by
  intro m
  induction m using Nat.strongRecOn with
  | _ m ihs =>
  intro b k d G w fp hm hk hdk hR hB hO hS hGl
  refine enterR (args := [_]) hS hO Tryd.func40 rfl Tryd.ntmps40 (by simp) ?_
  have hfp := own_wkr hO
  clear hO hS
  by_cases hlt : k < L.length
  case neg =>
    have hnone : exF d (nodsL L k) = none := by
      have : nodsL L k = [] := by unfold nodsL; rw [List.drop_eq_nil_of_le (by omega)]; rfl
      rw [this, exF_nil]
    (repeat' (first|refine zza ?_|refine zc9 ?_|refine zzb fun w hw => ?_|refine zzh fun _ => ?_|refine zzi fun _ _ => ?_|refine zzj (fun _ => ?_) fun _ => ?_))
    refine CW_seq ?_
    (repeat' (first|refine zza ?_|refine zc9 ?_|refine zzb fun w hw => ?_|refine zzh fun _ => ?_|refine zzi fun _ _ => ?_|refine zzj (fun _ => ?_) fun _ => ?_))
    (apply WL_callUP1 (h := wkr b p L.length c k d); (first | exact .here | exact .there .here | exact .there (.there .here) | exact .there (.there (.there .here)) | exact .there (.there (.there (.there .here))) | exact .there (.there (.there (.there (.there .here)))) | exact .there (.there (.there (.there (.there (.there .here)))))); (first | exact .here | exact .there .here | exact .there (.there .here) | exact .there (.there (.there .here)) | exact .there (.there (.there (.there .here))) | exact .there (.there (.there (.there (.there .here)))) | exact .there (.there (.there (.there (.there (.there .here)))))); rfl; rfl; rfl; (intro W fp hO hS; exact tree_fail b p L.length c k d G W fp hO hS))
    (repeat' (first|refine zza ?_|refine zc9 ?_|refine zzb fun w hw => ?_|refine zzh fun _ => ?_|refine zzi fun _ _ => ?_|refine zzj (fun _ => ?_) fun _ => ?_))
    exact .inr ⟨(k : Int), hnone, rfl, Rd.grow_refl _ _, hw.ent zent⟩
  obtain ⟨m, rfl⟩ : ∃ q, m = q + 1 := ⟨m - 1, by omega⟩
  have ih := ihs m (by omega)
  clear ihs
  obtain ⟨x, hx⟩ : ∃ x, L[k]? = some x := ⟨L[k], by simp [hlt]⟩
  have hxB := hB x (List.mem_of_getElem? hx)
  obtain ⟨Z, hZ⟩ : ∃ Z, exF d (nodsL L k) = Z := ⟨_, rfl⟩
  have hcons := hZ
  rw [nodsL_cons hx, exF_cons] at hcons
  (repeat' (first|refine zza ?_|refine zc9 ?_|refine zzb fun w hw => ?_|refine zzh fun _ => ?_|refine zzi fun _ _ => ?_|refine zzj (fun _ => ?_) fun _ => ?_))
  refine CW_seq ?_
  (repeat' (first|refine zza ?_|refine zc9 ?_|refine zzb fun w hw => ?_|refine zzh fun _ => ?_|refine zzi fun _ _ => ?_|refine zzj (fun _ => ?_) fun _ => ?_))
  (apply WQ_callV; rfl; rfl; rfl; (intro W hW; exact tree_right x W hxB.text hxB.numsL (hGl W hW.keep)))
  obtain ⟨rr, hrr⟩ : ∃ rr, rightN x.nod = rr := ⟨_, rfl⟩
  rw [hrr] at hcons ⊢
  cases rr with
  | false =>
    rw [if_pos rfl] at hcons
    (repeat' (first|refine zza ?_|refine zc9 ?_|refine zzb fun w hw => ?_|refine zzh fun _ => ?_|refine zzi fun _ _ => ?_|refine zzj (fun _ => ?_) fun _ => ?_))
    (apply WL_callUP1 (h := wkr b p L.length c k d); (first | exact .here | exact .there .here | exact .there (.there .here) | exact .there (.there (.there .here)) | exact .there (.there (.there (.there .here))) | exact .there (.there (.there (.there (.there .here)))) | exact .there (.there (.there (.there (.there (.there .here)))))); (first | exact .here | exact .there .here | exact .there (.there .here) | exact .there (.there (.there .here)) | exact .there (.there (.there (.there .here))) | exact .there (.there (.there (.there (.there .here)))) | exact .there (.there (.there (.there (.there (.there .here)))))); rfl; rfl; rfl; (intro W fp hO hS; exact tree_fail b p L.length c k d G W fp hO hS))
    (repeat' (first|refine zza ?_|refine zc9 ?_|refine zzb fun w hw => ?_|refine zzh fun _ => ?_|refine zzi fun _ _ => ?_|refine zzj (fun _ => ?_) fun _ => ?_))
    exact .inr ⟨(k : Int), by rw [hZ, hcons], rfl, Rd.grow_refl _ _, hw.ent zent⟩
  | true =>
    rw [if_neg (by decide)] at hcons
    (repeat' (first|refine zza ?_|refine zc9 ?_|refine zzb fun w hw => ?_|refine zzh fun _ => ?_|refine zzi fun _ _ => ?_|refine zzj (fun _ => ?_) fun _ => ?_))
    apply WB_alloc rfl rfl
    intro b3
    obtain ⟨op, aop, af, ag, n, nums, text⟩ := x
    (repeat' (first|refine zza ?_|refine zc9 ?_|refine zzb fun w hw => ?_|refine zzh fun _ => ?_|refine zzi fun _ _ => ?_))
    rw [show (k : Int) + 1 = ((k + 1 : Nat) : Int) by omega]
    refine CW_ent (m' := [blk b3 35 #[.int .i64 op, .int .i64 aop, .int .i64 af, .int .i64 ag, .int .i64 n, .slice nums.p nums.xs.length nums.c, .string ⟨text.toArray⟩], wkr b p L.length c (k + 1) d, ro w fp G]) (Ent.consK (k := Ent.consK (k := Ent.cons zpk Ent.nil) zpk) zpk) ?_
    by_cases h1 : op = 1
    · subst h1
      replace hcons := (if_pos (show (1 : Int) = 1 ∨ (1 : Int) = 2 ∨ (1 : Int) = 3 from .inl rfl)).symm.trans hcons
      (repeat' (first|refine zza ?_|refine zc9 ?_|refine zzb fun w hw => ?_|refine zzh fun _ => ?_|refine zzi fun _ _ => ?_|refine zzj (fun _ => ?_) fun _ => ?_))
      exact .inl ⟨(G, .leaf ⟨1, aop, af, ag, n, nums.xs, text⟩, k + 1, .iface 105 (.agg #[.slice nums.p nums.xs.length nums.c])), ⟨hZ.trans hcons.symm, by dsimp only; omega, by dsimp only; omega, .inl ⟨rfl, _, _, rfl, hxB.nums⟩⟩, rfl, Rd.grow_refl _ _, hw.ent zent⟩
    by_cases h2 : op = 2
    · subst h2
      replace hcons := (if_pos (show (2 : Int) = 1 ∨ (2 : Int) = 2 ∨ (2 : Int) = 3 from .inr (.inl rfl))).symm.trans hcons
      (repeat' (first|refine zza ?_|refine zc9 ?_|refine zzb fun w hw => ?_|refine zzh fun _ => ?_|refine zzi fun _ _ => ?_|refine zzj (fun _ => ?_) fun _ => ?_))
      exact .inl ⟨(G, .leaf ⟨2, aop, af, ag, n, nums.xs, text⟩, k + 1, .iface 106 (.agg #[.string ⟨text.toArray⟩])), ⟨hZ.trans hcons.symm, by dsimp only; omega, by dsimp only; omega, .inr (.inl ⟨rfl, rfl⟩)⟩, rfl, Rd.grow_refl _ _, hw.ent zent⟩
    by_cases h3 : op = 3
    · subst h3
      replace hcons := (if_pos (show (3 : Int) = 1 ∨ (3 : Int) = 2 ∨ (3 : Int) = 3 from .inr (.inr rfl))).symm.trans hcons
      (repeat' (first|refine zza ?_|refine zc9 ?_|refine zzb fun w hw => ?_|refine zzh fun _ => ?_|refine zzi fun _ _ => ?_|refine zzj (fun _ => ?_) fun _ => ?_))
      exact .inl ⟨(G, .leaf ⟨3, aop, af, ag, n, nums.xs, text⟩, k + 1, .iface 88 (.agg #[.string ⟨text.toArray⟩])), ⟨hZ.trans hcons.symm, by dsimp only; omega, by dsimp only; omega, .inr (.inr (.inl ⟨rfl, rfl⟩))⟩, rfl, Rd.grow_refl _ _, hw.ent zent⟩
    replace hcons := (if_neg (show ¬ (op = 1 ∨ op = 2 ∨ op = 3) by omega)).symm.trans hcons
    by_cases h45 : op = 4 ∨ op = 5
    · replace hcons := (if_pos h45).symm.trans hcons
      by_cases hd : d = 0
      · replace hcons := (if_pos hd).symm.trans hcons
        subst hd
        rcases h45 with rfl | rfl
        · (repeat' (first|refine zza ?_|refine zc9 ?_|refine zzb fun w hw => ?_|refine zzh fun _ => ?_|refine zzi fun _ _ => ?_|refine zzj (fun _ => ?_) fun _ => ?_))
          repeat (refine CW_seq ?_; (repeat' (first|refine zza ?_|refine zc9 ?_|refine zzb fun w hw => ?_|refine zzh fun _ => ?_|refine zzi fun _ _ => ?_|refine zzj (fun _ => ?_) fun _ => ?_)))
          (apply WL_callUP1 (h := wkr b p L.length c (k + 1) 0); (first | exact .here | exact .there .here | exact .there (.there .here) | exact .there (.there (.there .here)) | exact .there (.there (.there (.there .here))) | exact .there (.there (.there (.there (.there .here)))) | exact .there (.there (.there (.there (.there (.there .here)))))); (first | exact .here | exact .there .here | exact .there (.there .here) | exact .there (.there (.there .here)) | exact .there (.there (.there (.there .here))) | exact .there (.there (.there (.there (.there .here)))) | exact .there (.there (.there (.there (.there (.there .here)))))); rfl; rfl; rfl; (intro W fp hO hS; exact tree_fail b p L.length c (k + 1) 0 G W fp hO hS))
          (repeat' (first|refine zza ?_|refine zc9 ?_|refine zzb fun w hw => ?_|refine zzh fun _ => ?_|refine zzi fun _ _ => ?_|refine zzj (fun _ => ?_) fun _ => ?_))
          exact .inr ⟨((k + 1 : Nat) : Int), hZ.trans hcons.symm, rfl, Rd.grow_refl _ _, hw.ent zent⟩
        · (repeat' (first|refine zza ?_|refine zc9 ?_|refine zzb fun w hw => ?_|refine zzh fun _ => ?_|refine zzi fun _ _ => ?_|refine zzj (fun _ => ?_) fun _ => ?_))
          repeat (refine CW_seq ?_; (repeat' (first|refine zza ?_|refine zc9 ?_|refine zzb fun w hw => ?_|refine zzh fun _ => ?_|refine zzi fun _ _ => ?_|refine zzj (fun _ => ?_) fun _ => ?_)))
          (apply WL_callUP1 (h := wkr b p L.length c (k + 1) 0); (first | exact .here | exact .there .here | exact .there (.there .here) | exact .there (.there (.there .here)) | exact .there (.there (.there (.there .here))) | exact .there (.there (.there (.there (.there .here)))) | exact .there (.there (.there (.there (.there (.there .here)))))); (first | exact .here | exact .there .here | exact .there (.there .here) | exact .there (.there (.there .here)) | exact .there (.there (.there (.there .here))) | exact .there (.there (.there (.there (.there .here)))) | exact .there (.there (.there (.there (.there (.there .here)))))); rfl; rfl; rfl; (intro W fp hO hS; exact tree_fail b p L.length c (k + 1) 0 G W fp hO hS))
          (repeat' (first|refine zza ?_|refine zc9 ?_|refine zzb fun w hw => ?_|refine zzh fun _ => ?_|refine zzi fun _ _ => ?_|refine zzj (fun _ => ?_) fun _ => ?_))
          exact .inr ⟨((k + 1 : Nat) : Int), hZ.trans hcons.symm, rfl, Rd.grow_refl _ _, hw.ent zent⟩
      · replace hcons := (if_neg hd).symm.trans hcons
        have hd0 : 0 < d := by omega
        rcases h45 with rfl | rfl
        · (repeat' (first|refine zza ?_|refine zc9 ?_|refine zzb fun w hw => ?_|refine zzh fun _ => ?_|refine zzi fun _ _ => ?_|refine zzj (fun _ => ?_) fun _ => ?_))
          repeat (refine CW_seq ?_; (repeat' (first|refine zza ?_|refine zc9 ?_|refine zzb fun w hw => ?_|refine zzh fun _ => ?_|refine zzi fun _ _ => ?_|refine zzj (fun _ => ?_) fun _ => ?_)))
          exact .inl ⟨(G, .leaf ⟨4, aop, af, ag, n, nums.xs, text⟩, k + 1, .iface 108 (.agg #[.int .i64 4])), ⟨hZ.trans hcons.symm, by dsimp only; omega, by dsimp only; omega, .inr (.inr (.inr ⟨.inl rfl, rfl⟩))⟩, rfl, Rd.grow_refl _ _, hw.ent zent⟩
        · (repeat' (first|refine zza ?_|refine zc9 ?_|refine zzb fun w hw => ?_|refine zzh fun _ => ?_|refine zzi fun _ _ => ?_|refine zzj (fun _ => ?_) fun _ => ?_))
          repeat (refine CW_seq ?_; (repeat' (first|refine zza ?_|refine zc9 ?_|refine zzb fun w hw => ?_|refine zzh fun _ => ?_|refine zzi fun _ _ => ?_|refine zzj (fun _ => ?_) fun _ => ?_)))
          exact .inl ⟨(G, .leaf ⟨5, aop, af, ag, n, nums.xs, text⟩, k + 1, .iface 108 (.agg #[.int .i64 5])), ⟨hZ.trans hcons.symm, by dsimp only; omega, by dsimp only; omega, .inr (.inr (.inr ⟨.inr rfl, rfl⟩))⟩, rfl, Rd.grow_refl _ _, hw.ent zent⟩
    replace hcons := (if_neg h45).symm.trans hcons
    have h4 : ¬ op = 4 := fun h => h45 (.inl h)
    have h5 : ¬ op = 5 := fun h => h45 (.inr h)
    clear h45
    have hrt := right67 (n := ⟨op, aop, af, ag, n, nums.xs, text⟩) hrr
    dsimp only at hrt
    have hFun := tree_function m p c L hd0 ih
    by_cases h6 : op = 6
    · replace hcons := (if_pos h6).symm.trans hcons
      obtain ⟨hn0, h6n⟩ := hrt (.inl h6)
      subst h6
      (repeat' (first|refine zza ?_|refine zc9 ?_|refine zzb fun w hw => ?_|refine zzh fun _ => ?_|refine zzi fun _ _ => ?_|refine zzj (fun _ => ?_) fun _ => ?_))
      repeat (refine CW_seq ?_; (repeat' (first|refine zza ?_|refine zc9 ?_|refine zzb fun w hw => ?_|refine zzh fun _ => ?_|refine zzi fun _ _ => ?_|refine zzj (fun _ => ?_) fun _ => ?_)))
      refine WL_callGP (m1 := [wkr b p L.length c (k + 1) d]) (r := [blk b3 35 #[.int .i64 6, .int .i64 aop, .int .i64 af, .int .i64 ag, .int .i64 n, .slice nums.p nums.xs.length nums.c, .string ⟨text.toArray⟩]]) (X := Rd × Exs × Nat × SlV Value) (Y := Int) (V := fun z => .agg #[.int .i64 aop, .int .i64 af, .int .i64 ag, .int .i64 n, .slice z.2.2.2.p z.2.2.2.xs.length z.2.2.2.c]) (Gx := fun z => z.1) (M := fun z => [wkr b p L.length c z.2.2.1 d]) (I := fun z => funF d ⟨6, aop, af, ag, n, nums.xs, text⟩ (nodsL L (k + 1)) = some (z.2.1, nodsL L z.2.2.1) ∧ k + 1 ≤ z.2.2.1 ∧ z.2.2.1 ≤ L.length ∧ z.2.1.rep z.1 z.2.2.2.xs ∧ Row encV 1 z.1 z.2.2.2.p z.2.2.2.c z.2.2.2.xs) (C := wrongP) (Gy := fun _ => G) (MP := fun _ => []) (J := fun _ => funF d ⟨6, aop, af, ag, n, nums.xs, text⟩ (nodsL L (k + 1)) = none) zent rfl rfl rfl (fun W fp' hW hO hS hF => hFun b (k + 1) d ⟨6, aop, af, ag, n, nums, text⟩ G W fp' (by omega) (by omega) (by omega) hn0 hxB.n h6n hR hB hO hS (fun W' hk' => hGl W' (hW.keep.tr hk' hF))) ?_ ?_
      case refine_2 =>
        rintro y hno _
        replace hcons := hcons
        rw [show funF d (NodM.nod ⟨6, aop, af, ag, n, nums, text⟩) (nodsL L (k + 1)) = none from hno] at hcons
        (repeat' (first|refine zza ?_|refine zc9 ?_|refine zzb fun w hw => ?_|refine zzh fun _ => ?_|refine zzi fun _ _ => ?_|refine zzj (fun _ => ?_) fun _ => ?_))
        exact .inr ⟨y, hZ.trans hcons.symm, rfl, Rd.grow_refl _ _, hw.ent zent⟩
      rintro ⟨G1, bs, k1, vs⟩ ⟨he1, hk1, hk1L, hr1, hrow1⟩ hg1
      dsimp only at he1 hk1 hk1L hr1 hrow1 hg1 ⊢
      rw [show funF d (NodM.nod ⟨6, aop, af, ag, n, nums, text⟩) (nodsL L (k + 1)) = _ from he1] at hcons
      simp only at hcons
      refine zzh fun b4 => ?_
      refine zza ?_
      refine zza ?_
      refine zza ?_
      refine zza ?_
      refine CW_ent (m' := [blk b4 112 #[.int .i64 aop, .int .i64 af, .int .i64 ag, .int .i64 n, .slice vs.p vs.xs.length vs.c], wkr b p L.length c k1 d, ro w fp G1, blk b3 35 #[.int .i64 6, .int .i64 aop, .int .i64 af, .int .i64 ag, .int .i64 n, .slice nums.p nums.xs.length nums.c, .string ⟨text.toArray⟩]]) (Ent.consK (k := Ent.cons (.there .here) (Ent.cons .here (Ent.cons .here Ent.nil))) .here) ?_
      refine CW_perm 3 [0, 1, 2] [blk b4 112 #[.int .i64 aop, .int .i64 af, .int .i64 ag, .int .i64 n, .slice vs.p vs.xs.length vs.c], blk b3 35 #[.int .i64 6, .int .i64 aop, .int .i64 af, .int .i64 ag, .int .i64 n, .slice nums.p nums.xs.length nums.c, .string ⟨text.toArray⟩]] [] Cov.nil (pm := [wkr b p L.length c k1 d, ro w fp G1]) zent (by kernel_rfl) (by decide +kernel) (by kernel_rfl) ?_
      (refine WP_op rfl rfl rfl zyi ?_)
      (refine WP_op rfl rfl rfl zyi ?_)
      refine WP_callG (m1 := [wkr b p L.length c k1 d]) (r := [blk b4 112 #[.int .i64 aop, .int .i64 af, .int .i64 ag, .int .i64 n, .slice vs.p vs.xs.length vs.c], blk b3 35 #[.int .i64 6, .int .i64 aop, .int .i64 af, .int .i64 ag, .int .i64 n, .slice nums.p nums.xs.length nums.c, .string ⟨text.toArray⟩]]) (X := Rd × Ex × Nat × Value) (Y := Int) (V := fun z => z.2.2.2) (Gx := fun z => z.1) (M := fun z => [wkr b p L.length c z.2.2.1 d]) (I := fun z => exF d (nodsL L k1) = some (z.2.1, nodsL L z.2.2.1) ∧ k1 < z.2.2.1 ∧ z.2.2.1 ≤ L.length ∧ z.2.1.rep z.1 z.2.2.2) (C := wrongP) (Gy := fun _ => G1) (MP := fun _ => []) (J := fun _ => exF d (nodsL L k1) = none) rfl zent (by decide +kernel) rfl rfl rfl (fun W fp' hW hO hS hF => ih b k1 d G1 W fp' (by omega) (by omega) (by omega) (hR.mono hg1.1) (fun x hx => (hB x hx).mono hg1.1) hO hS (fun W' hk' => hGl W' (hW.keep.tr hk' hF))) (fun z _ => ⟨[], zent⟩) ?_ ?_
      case refine_2 =>
        rintro y hno _
        rw [hno] at hcons
        (repeat' (first|refine zza ?_|refine zc9 ?_|refine zzb fun w hw => ?_|refine zzh fun _ => ?_|refine zzi fun _ _ => ?_|refine zzj (fun _ => ?_) fun _ => ?_))
        exact .inr ⟨y, hZ.trans hcons.symm, rfl, Rd.grow_refl _ _, hw.ent (Ent.roLe hg1.1 zpk Ent.nil)⟩
      rintro ⟨G2, e2, k2, v2⟩ ⟨he2, hk2, hk2L, hr2⟩ hg2
      dsimp only at he2 hk2 hk2L hr2 hg2 ⊢
      obtain ⟨T2, u2, rfl⟩ := Ex.rep_iface hr2
      rw [he2] at hcons
      simp only at hcons
      refine WP_end ?_
      (repeat' (first|refine zza ?_|refine zc9 ?_|refine zzb fun w hw => ?_|refine zzh fun _ => ?_|refine zzi fun _ _ => ?_|refine zzj (fun _ => ?_) fun _ => ?_))
      exact .inl ⟨(G2, .one ⟨6, aop, af, ag, n, nums.xs, text⟩ bs e2, k2, .iface 114 (.agg #[.int .i64 aop, .int .i64 af, .int .i64 ag, .int .i64 n, .slice vs.p vs.xs.length vs.c, .iface T2 u2])), ⟨hZ.trans hcons.symm, by dsimp only; omega, hk2L, ⟨vs.p, vs.c, vs.xs, _, rfl, hrow1.mono hg2.1, Exs.rep_mono hg2.1 hr1, hr2⟩⟩, rfl, Rd.grow_tr hg1 hg2, hw.ent zent⟩
    by_cases h7 : op = 7
    · replace hcons := (if_pos h7).symm.trans ((if_neg h6).symm.trans hcons)
      obtain ⟨hn0, h6n⟩ := hrt (.inr h7)
      subst h7
      (repeat' (first|refine zza ?_|refine zc9 ?_|refine zzb fun w hw => ?_|refine zzh fun _ => ?_|refine zzi fun _ _ => ?_|refine zzj (fun _ => ?_) fun _ => ?_))
      repeat (refine CW_seq ?_; (repeat' (first|refine zza ?_|refine zc9 ?_|refine zzb fun w hw => ?_|refine zzh fun _ => ?_|refine zzi fun _ _ => ?_|refine zzj (fun _ => ?_) fun _ => ?_)))
      refine WL_callGP (m1 := [wkr b p L.length c (k + 1) d]) (r := [blk b3 35 #[.int .i64 7, .int .i64 aop, .int .i64 af, .int .i64 ag, .int .i64 n, .slice nums.p nums.xs.length nums.c, .string ⟨text.toArray⟩]]) (X := Rd × Ex × Nat × Value) (Y := Int) (V := fun z => z.2.2.2) (Gx := fun z => z.1) (M := fun z => [wkr b p L.length c z.2.2.1 d]) (I := fun z => exF d (nodsL L (k + 1)) = some (z.2.1, nodsL L z.2.2.1) ∧ (k + 1) < z.2.2.1 ∧ z.2.2.1 ≤ L.length ∧ z.2.1.rep z.1 z.2.2.2) (C := wrongP) (Gy := fun _ => G) (MP := fun _ => []) (J := fun _ => exF d (nodsL L (k + 1)) = none) zent rfl rfl rfl (fun W fp' hW hO hS hF => ih b (k + 1) d G W fp' (by omega) (by omega) (by omega) hR hB hO hS (fun W' hk' => hGl W' (hW.keep.tr hk' hF))) ?_ ?_
      case refine_2 =>
        rintro y hno _
        rw [hno] at hcons
        (repeat' (first|refine zza ?_|refine zc9 ?_|refine zzb fun w hw => ?_|refine zzh fun _ => ?_|refine zzi fun _ _ => ?_|refine zzj (fun _ => ?_) fun _ => ?_))
        exact .inr ⟨y, hZ.trans hcons.symm, rfl, Rd.grow_refl _ _, hw.ent zent⟩
      rintro ⟨G0, e0, k0, v0⟩ ⟨he0, hk0, hk0L, hr0⟩ hg0
      dsimp only at he0 hk0 hk0L hr0 hg0 ⊢
      obtain ⟨T0, u0, rfl⟩ := Ex.rep_iface hr0
      rw [he0] at hcons
      simp only at hcons
      (repeat' (first|refine zza ?_|refine zc9 ?_|refine zzb fun w hw => ?_|refine zzh fun _ => ?_|refine zzi fun _ _ => ?_|refine zzj (fun _ => ?_) fun _ => ?_))
      repeat (refine CW_seq ?_; (repeat' (first|refine zza ?_|refine zc9 ?_|refine zzb fun w hw => ?_|refine zzh fun _ => ?_|refine zzi fun _ _ => ?_|refine zzj (fun _ => ?_) fun _ => ?_)))
      refine WL_callGP (m1 := [wkr b p L.length c k0 d]) (r := [blk b3 35 #[.int .i64 7, .int .i64 aop, .int .i64 af, .int .i64 ag, .int .i64 n, .slice nums.p nums.xs.length nums.c, .string ⟨text.toArray⟩]]) (X := Rd × Exs × Nat × SlV Value) (Y := Int) (V := fun z => .agg #[.int .i64 aop, .int .i64 af, .int .i64 ag, .int .i64 n, .slice z.2.2.2.p z.2.2.2.xs.length z.2.2.2.c]) (Gx := fun z => z.1) (M := fun z => [wkr b p L.length c z.2.2.1 d]) (I := fun z => funF d ⟨7, aop, af, ag, n, nums.xs, text⟩ (nodsL L k0) = some (z.2.1, nodsL L z.2.2.1) ∧ k0 ≤ z.2.2.1 ∧ z.2.2.1 ≤ L.length ∧ z.2.1.rep z.1 z.2.2.2.xs ∧ Row encV 1 z.1 z.2.2.2.p z.2.2.2.c z.2.2.2.xs) (C := wrongP) (Gy := fun _ => G0) (MP := fun _ => []) (J := fun _ => funF d ⟨7, aop, af, ag, n, nums.xs, text⟩ (nodsL L k0) = none) zent rfl rfl rfl (fun W fp' hW hO hS hF => hFun b k0 d ⟨7, aop, af, ag, n, nums, text⟩ G0 W fp' (by omega) (by omega) (by omega) hn0 hxB.n h6n (hR.mono hg0.1) (fun x hx => (hB x hx).mono hg0.1) hO hS (fun W' hk' => hGl W' (hW.keep.tr hk' hF))) ?_ ?_
      case refine_2 =>
        rintro y hno _
        rw [show funF d (NodM.nod ⟨7, aop, af, ag, n, nums, text⟩) (nodsL L k0) = none from hno] at hcons
        (repeat' (first|refine zza ?_|refine zc9 ?_|refine zzb fun w hw => ?_|refine zzh fun _ => ?_|refine zzi fun _ _ => ?_|refine zzj (fun _ => ?_) fun _ => ?_))
        exact .inr ⟨y, hZ.trans hcons.symm, rfl, Rd.grow_refl _ _, hw.ent (Ent.roLe hg0.1 zpk Ent.nil)⟩
      rintro ⟨G1, bs, k1, vs⟩ ⟨he1, hk1, hk1L, hr1, hrow1⟩ hg1
      dsimp only at he1 hk1 hk1L hr1 hrow1 hg1 ⊢
      rw [show funF d (NodM.nod ⟨7, aop, af, ag, n, nums, text⟩) (nodsL L k0) = _ from he1] at hcons
      simp only at hcons
      refine zzh fun b4 => ?_
      refine zza ?_
      refine zza ?_
      refine zza ?_
      refine zza ?_
      refine CW_ent (m' := [blk b4 112 #[.int .i64 aop, .int .i64 af, .int .i64 ag, .int .i64 n, .slice vs.p vs.xs.length vs.c], wkr b p L.length c k1 d, ro w fp G1, blk b3 35 #[.int .i64 7, .int .i64 aop, .int .i64 af, .int .i64 ag, .int .i64 n, .slice nums.p nums.xs.length nums.c, .string ⟨text.toArray⟩]]) (Ent.consK (k := Ent.cons (.there .here) (Ent.cons .here (Ent.cons .here Ent.nil))) .here) ?_
      refine CW_perm 4 [0, 1, 2, 3] [blk b4 112 #[.int .i64 aop, .int .i64 af, .int .i64 ag, .int .i64 n, .slice vs.p vs.xs.length vs.c], blk b3 35 #[.int .i64 7, .int .i64 aop, .int .i64 af, .int .i64 ag, .int .i64 n, .slice nums.p nums.xs.length nums.c, .string ⟨text.toArray⟩]] [] Cov.nil (pm := [wkr b p L.length c k1 d, ro w fp G1]) zent (by kernel_rfl) (by decide +kernel) (by kernel_rfl) ?_
      (refine WP_op rfl rfl rfl zyi ?_)
      (refine WP_op rfl rfl rfl zyi ?_)
      (refine WP_op rfl rfl rfl zyi ?_)
      refine WP_callG (m1 := [wkr b p L.length c k1 d]) (r := [blk b4 112 #[.int .i64 aop, .int .i64 af, .int .i64 ag, .int .i64 n, .slice vs.p vs.xs.length vs.c], blk b3 35 #[.int .i64 7, .int .i64 aop, .int .i64 af, .int .i64 ag, .int .i64 n, .slice nums.p nums.xs.length nums.c, .string ⟨text.toArray⟩]]) (X := Rd × Ex × Nat × Value) (Y := Int) (V := fun z => z.2.2.2) (Gx := fun z => z.1) (M := fun z => [wkr b p L.length c z.2.2.1 d]) (I := fun z => exF d (nodsL L k1) = some (z.2.1, nodsL L z.2.2.1) ∧ k1 < z.2.2.1 ∧ z.2.2.1 ≤ L.length ∧ z.2.1.rep z.1 z.2.2.2) (C := wrongP) (Gy := fun _ => G1) (MP := fun _ => []) (J := fun _ => exF d (nodsL L k1) = none) rfl zent (by decide +kernel) rfl rfl rfl (fun W fp' hW hO hS hF => ih b k1 d G1 W fp' (by omega) (by omega) (by omega) ((hR.mono hg0.1).mono hg1.1) (fun x hx => ((hB x hx).mono hg0.1).mono hg1.1) hO hS (fun W' hk' => hGl W' (hW.keep.tr hk' hF))) (fun z _ => ⟨[], zent⟩) ?_ ?_
      case refine_2 =>
        rintro y hno _
        rw [hno] at hcons
        (repeat' (first|refine zza ?_|refine zc9 ?_|refine zzb fun w hw => ?_|refine zzh fun _ => ?_|refine zzi fun _ _ => ?_|refine zzj (fun _ => ?_) fun _ => ?_))
        exact .inr ⟨y, hZ.trans hcons.symm, rfl, Rd.grow_refl _ _, hw.ent (Ent.roLe (Rd.le_trans hg0.1 hg1.1) zpk Ent.nil)⟩
      rintro ⟨G2, e2, k2, v2⟩ ⟨he2, hk2, hk2L, hr2⟩ hg2
      dsimp only at he2 hk2 hk2L hr2 hg2 ⊢
      obtain ⟨T2, u2, rfl⟩ := Ex.rep_iface hr2
      rw [he2] at hcons
      simp only at hcons
      refine WP_end ?_
      (repeat' (first|refine zza ?_|refine zc9 ?_|refine zzb fun w hw => ?_|refine zzh fun _ => ?_|refine zzi fun _ _ => ?_|refine zzj (fun _ => ?_) fun _ => ?_))
      exact .inl ⟨(G2, .two ⟨7, aop, af, ag, n, nums.xs, text⟩ e0 bs e2, k2, .iface 119 (.agg #[.iface T0 u0, .int .i64 aop, .int .i64 af, .int .i64 ag, .int .i64 n, .slice vs.p vs.xs.length vs.c, .iface T2 u2])), ⟨hZ.trans hcons.symm, by dsimp only; omega, hk2L, ⟨vs.p, vs.c, vs.xs, _, _, rfl, hrow1.mono hg2.1, Ex.rep_mono (Rd.le_trans hg1.1 hg2.1) hr0, Exs.rep_mono hg2.1 hr1, hr2⟩⟩, rfl, Rd.grow_tr hg0 (Rd.grow_tr hg1 hg2), hw.ent zent⟩
    by_cases h8 : op = 8
    · replace hcons := (if_pos h8).symm.trans ((if_neg h7).symm.trans ((if_neg h6).symm.trans hcons))
      have hn8 := right8 (n := ⟨op, aop, af, ag, n, nums.xs, text⟩) hrr h8
      have hn64 := hxB.n
      dsimp only at hn8 hn64
      subst h8
      obtain ⟨N, rfl⟩ := Int.eq_ofNat_of_zero_le (show 0 ≤ n by omega)
      unfold I64 at hn64
      (repeat' (first|refine zza ?_|refine zc9 ?_|refine zzb fun w hw => ?_|refine zzh fun _ => ?_|refine zzi fun _ _ => ?_|refine zzj (fun _ => ?_) fun _ => ?_))
      repeat (refine CW_seq ?_; (repeat' (first|refine zza ?_|refine zc9 ?_|refine zzb fun w hw => ?_|refine zzh fun _ => ?_|refine zzi fun _ _ => ?_|refine zzj (fun _ => ?_) fun _ => ?_)))
      refine WL_callGP (m1 := [wkr b p L.length c (k + 1) d]) (r := [blk b3 35 #[.int .i64 8, .int .i64 aop, .int .i64 af, .int .i64 ag, .int .i64 (N : Int), .slice nums.p nums.xs.length nums.c, .string ⟨text.toArray⟩]]) (X := Rd × Ex × Nat × Value) (Y := Int) (V := fun z => z.2.2.2) (Gx := fun z => z.1) (M := fun z => [wkr b p L.length c z.2.2.1 d]) (I := fun z => exF d (nodsL L (k + 1)) = some (z.2.1, nodsL L z.2.2.1) ∧ (k + 1) < z.2.2.1 ∧ z.2.2.1 ≤ L.length ∧ z.2.1.rep z.1 z.2.2.2) (C := wrongP) (Gy := fun _ => G) (MP := fun _ => []) (J := fun _ => exF d (nodsL L (k + 1)) = none) zent rfl rfl rfl (fun W fp' hW hO hS hF => ih b (k + 1) d G W fp' (by omega) (by omega) (by omega) hR hB hO hS (fun W' hk' => hGl W' (hW.keep.tr hk' hF))) ?_ ?_
      case refine_2 =>
        rintro y hno _
        rw [hno] at hcons
        (repeat' (first|refine zza ?_|refine zc9 ?_|refine zzb fun w hw => ?_|refine zzh fun _ => ?_|refine zzi fun _ _ => ?_|refine zzj (fun _ => ?_) fun _ => ?_))
        exact .inr ⟨y, hZ.trans hcons.symm, rfl, Rd.grow_refl _ _, hw.ent zent⟩
      rintro ⟨G0, e0, k0, v0⟩ ⟨he0, hk0, hk0L, hr0⟩ hg0
      dsimp only at he0 hk0 hk0L hr0 hg0 ⊢
      obtain ⟨T0, u0, rfl⟩ := Ex.rep_iface hr0
      rw [he0] at hcons
      simp only at hcons
      (repeat' (first|refine zza ?_|refine zc9 ?_|refine zzb fun w hw => ?_|refine zzh fun _ => ?_|refine zzi fun _ _ => ?_|refine zzj (fun _ => ?_) fun _ => ?_))
      repeat (refine CW_seq ?_; (repeat' (first|refine zza ?_|refine zc9 ?_|refine zzb fun w hw => ?_|refine zzh fun _ => ?_|refine zzi fun _ _ => ?_|refine zzj (fun _ => ?_) fun _ => ?_)))
      rename_i b4
      have h400k : k0 ≤ 400 := by omega
      refine CW_ent (m' := [blk b4 121 #[.iface T0 u0, .slice none 0 0], sl 59 1 none 0 0 [], wkr b p L.length c k0 d, ro w fp G0, blk b3 35 #[.int .i64 8, .int .i64 aop, .int .i64 af, .int .i64 ag, .int .i64 (N : Int), .slice nums.p nums.xs.length nums.c, .string ⟨text.toArray⟩]]) (Ent.consK (k := Ent.nilown (Ent.cons zpk (Ent.cons zpk (Ent.cons zpk Ent.nil)))) zpk) ?_
      refine CW_loopK [(0,_),(3,_),(7,_),(112,_)] zcov (fun x : Nat × Nat × Rd × Exs × Option Addr × Nat × List Value => [(113, .int .i64 (x.1 : Int))]) (fun x => [blk b4 121 #[.iface T0 u0, .slice x.2.2.2.2.1 x.1 x.2.2.2.2.2.1], sl 59 1 x.2.2.2.2.1 x.1 x.2.2.2.2.2.1 x.2.2.2.2.2.2, wkr b p L.length c x.2.1 d, ro w fp x.2.2.1, blk b3 35 #[.int .i64 8, .int .i64 aop, .int .i64 af, .int .i64 ag, .int .i64 (N : Int), .slice nums.p nums.xs.length nums.c, .string ⟨text.toArray⟩]]) (fun x => x.1 ≤ N ∧ k0 ≤ x.2.1 ∧ x.2.1 ≤ L.length ∧ exsF d x.1 (nodsL L k0) = some (x.2.2.2.1, nodsL L x.2.1) ∧ x.2.2.2.1.rep x.2.2.1 x.2.2.2.2.2.2 ∧ Rd.grow w G0 x.2.2.1) (fun x => N - x.1) (0, k0, G0, .nil, none, 0, []) ⟨Nat.zero_le _, Nat.le_refl _, hk0L, exsF_zero _ _, rfl, Rd.grow_refl _ _⟩ zcov zent ?_
      rintro ⟨i, ki, Gi, bs, sp, sc, vs⟩ ⟨hi, hki, hkiL, hex, hrep, hgr'⟩
      dsimp only at hi hki hkiL hex hrep hgr' ⊢
      have hcnt := exsF_len hex
      rw [nods_len, nods_len] at hcnt
      have hi400 : i ≤ 400 := by omega
      have hle0 := Rd.le_trans hg0.1 hgr'.1
      by_cases hlt : i < N
      · have hs1 := exsF_add (d := d) i 1 (nodsL L k0)
        rw [hex] at hs1
        simp only at hs1
        rw [exsF_one] at hs1
        have hbad : exsF d (i + 1) (nodsL L k0) = none → exF d (nodsL L k) = none := fun h => by
          rw [hZ]
          refine hcons.symm.trans ?_
          rw [show exsF d (NodM.nod ⟨8, aop, af, ag, (N : Int), nums, text⟩).n.toNat (nodsL L k0) = none from exsF_stop h (show i + 1 ≤ N by omega)]
        (repeat' (first|refine zza ?_|refine zzb fun w hw => ?_|refine zzh fun _ => ?_|refine zzi fun _ _ => ?_|refine zzj (fun _ => ?_) fun _ => ?_))
        refine CW_perm 6 [0, 1, 2, 3, 4, 5] [blk b4 121 #[.iface T0 u0, .slice sp i sc], blk b3 35 #[.int .i64 8, .int .i64 aop, .int .i64 af, .int .i64 ag, .int .i64 (N : Int), .slice nums.p nums.xs.length nums.c, .string ⟨text.toArray⟩]] [] Cov.nil (pm := [sl 59 1 sp i sc vs, wkr b p L.length c ki d, ro w fp Gi]) zent (by kernel_rfl) (by decide +kernel) (by kernel_rfl) ?_
        (refine WP_op rfl rfl rfl zyi ?_)
        (refine WP_op rfl rfl rfl zyi ?_)
        (refine WP_op rfl rfl rfl zyi ?_)
        refine WP_callG (m1 := [wkr b p L.length c ki d]) (r := [sl 59 1 sp i sc vs, blk b4 121 #[.iface T0 u0, .slice sp i sc], blk b3 35 #[.int .i64 8, .int .i64 aop, .int .i64 af, .int .i64 ag, .int .i64 (N : Int), .slice nums.p nums.xs.length nums.c, .string ⟨text.toArray⟩]]) (X := Rd × Ex × Nat × Value) (Y := Int) (V := fun z => z.2.2.2) (Gx := fun z => z.1) (M := fun z => [wkr b p L.length c z.2.2.1 d]) (I := fun z => exF d (nodsL L ki) = some (z.2.1, nodsL L z.2.2.1) ∧ ki < z.2.2.1 ∧ z.2.2.1 ≤ L.length ∧ z.2.1.rep z.1 z.2.2.2) (C := wrongP) (Gy := fun _ => Gi) (MP := fun _ => []) (J := fun _ => exF d (nodsL L ki) = none) rfl zent (by decide +kernel) rfl rfl rfl (fun W fp' hW hO hS hF => ih b ki d Gi W fp' (by omega) (by omega) (by omega) (hR.mono hle0) (fun x hx => (hB x hx).mono hle0) hO hS (fun W' hk' => hGl W' (hW.keep.tr hk' hF))) (fun z _ => ⟨[], zent⟩) ?_ ?_
        case refine_2 =>
          rintro y hno _
          rw [hno] at hs1
          have hnone := hbad hs1
          (repeat' (first|refine zza ?_|refine zc9 ?_|refine zzb fun w hw => ?_|refine zzh fun _ => ?_|refine zzi fun _ _ => ?_|refine zzj (fun _ => ?_) fun _ => ?_))
          exact .inr ⟨y, hnone, rfl, Rd.grow_refl _ _, hw.ent (Ent.roLe hle0 zpk Ent.nil)⟩
        rintro ⟨G1, e1, k1, v1⟩ ⟨he1, hk1, hk1L, hr1⟩ hg1
        dsimp only at he1 hk1 hk1L hr1 hg1 ⊢
        obtain ⟨T1, u1, rfl⟩ := Ex.rep_iface hr1
        rw [he1] at hs1
        simp only at hs1
        clear hbad
        apply WP_bslice (hk := rfl) (pm := [ro w fp G1, wkr b p L.length c k1 d, sl 59 1 sp i sc vs]) (he := zent) (hso := by decide +kernel) (hx := rfl) (hl := rfl) (hc := rfl) (hs := rfl) (h0 := rfl) (hg := rfl) (hn := rfl)
        intro bb
        apply WP_append (hk := rfl) (hso := by decide +kernel) (hx := rfl) (hy := rfl) (he := rfl) (hp := .there (.there (.there .here))) (hp2 := .here) (pm := [ro w fp G1, wkr b p L.length c k1 d]) (hr := zent) (hl := rfl) (h1' := rfl) (hmax := by omega) (hmax2 := by omega) (hg := rfl) (hn := rfl)
        intro q c2
        refine WP_end ?_
        (repeat' (first|refine zza ?_|refine zc9 ?_|refine zzb fun w hw => ?_|refine zzh fun _ => ?_|refine zzi fun _ _ => ?_|refine zzj (fun _ => ?_) fun _ => ?_))
        refine EX_loop' (i + 1, k1, G1, bs.app (.cons e1 .nil), q, c2, vs ++ [.iface T1 u1]) ⟨zcov, ?_, by dsimp only; omega, by dsimp only; omega, by dsimp only; omega, hk1L, hs1, Exs.rep_app (Exs.rep_mono hg1.1 hrep) (Exs.rep_one hr1), Rd.grow_tr hgr' hg1⟩
        dsimp only
        exact zent
      · have hiN : i = N := by omega
        subst hiN
        have hvl : vs.length = i := by rw [Exs.rep_len hrep, (exsF_iff.1 hex).2.1]
        replace hcons : some (Ex.pick ⟨8, aop, af, ag, (i : Int), nums.xs, text⟩ e0 bs, nodsL L ki) = Z := by
          refine Eq.trans ?_ hcons
          rw [show exsF d (NodM.nod ⟨8, aop, af, ag, (i : Int), nums, text⟩).n.toNat (nodsL L k0) = _ from hex]
          rfl
        clear hex
        (repeat' (first|refine zza ?_|refine zc9 ?_|refine zzb fun w hw => ?_|refine zzh fun _ => ?_|refine zzi fun _ _ => ?_|refine zzj (fun _ => ?_) fun _ => ?_))
        obtain ⟨G', g', r', h'⟩ := Holds.toRo (α := Value) (enc := encV) (sz := 1) (fun _ => rfl) (by decide) (xs := vs) (e := 59) (n := i) (p := sp) (c := sc) (r := [wkr b p L.length c ki d]) (hw.ent (Ent.cons (.there (.there (.there .here))) (by rw [flat_encV]; exact Ent.cons (.there .here) (Ent.cons (.there .here) Ent.nil)))) (fun f hf i hi => by rw [own_wkr hf, ← hfp]; exact hi)
        exact .inl ⟨(G', .pick ⟨8, aop, af, ag, (i : Int), nums.xs, text⟩ e0 bs, ki, .iface 121 (.agg #[.iface T0 u0, .slice sp vs.length sc])), ⟨hZ.trans hcons.symm, by dsimp only; omega, hkiL, ⟨sp, sc, vs, _, rfl, r', Ex.rep_mono (Rd.le_trans hgr'.1 g'.1) hr0, Exs.rep_mono g'.1 hrep⟩⟩, by rw [hvl]; rfl, Rd.grow_tr hg0 (Rd.grow_tr hgr' g'), h'⟩
    replace hcons := (if_neg h8).symm.trans ((if_neg h7).symm.trans ((if_neg h6).symm.trans hcons))
    (repeat' (first|refine zza ?_|refine zc9 ?_|refine zzb fun w hw => ?_|refine zzh fun _ => ?_|refine zzi fun _ _ => ?_|refine zzj (fun _ => ?_) fun _ => ?_))
    repeat (refine CW_seq ?_; (repeat' (first|refine zza ?_|refine zc9 ?_|refine zzb fun w hw => ?_|refine zzh fun _ => ?_|refine zzi fun _ _ => ?_|refine zzj (fun _ => ?_) fun _ => ?_)))
    (apply WL_callUP1 (h := wkr b p L.length c (k + 1) d); (first | exact .here | exact .there .here | exact .there (.there .here) | exact .there (.there (.there .here)) | exact .there (.there (.there (.there .here))) | exact .there (.there (.there (.there (.there .here)))) | exact .there (.there (.there (.there (.there (.there .here)))))); (first | exact .here | exact .there .here | exact .there (.there .here) | exact .there (.there (.there .here)) | exact .there (.there (.there (.there .here))) | exact .there (.there (.there (.there (.there .here)))) | exact .there (.there (.there (.there (.there (.there .here)))))); rfl; rfl; rfl; (intro W fp hO hS; exact tree_fail b p L.length c (k + 1) d G W fp hO hS))
    (repeat' (first|refine zza ?_|refine zc9 ?_|refine zzb fun w hw => ?_|refine zzh fun _ => ?_|refine zzi fun _ _ => ?_|refine zzj (fun _ => ?_) fun _ => ?_))
    exact .inr ⟨((k + 1 : Nat) : Int), hZ.trans hcons.symm, rfl, Rd.grow_refl _ _, hw.ent zent⟩
end Go.Proofs.YtdmapiaejcnibaaDoor
