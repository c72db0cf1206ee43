/-
  tree: the walker reads an expression.
  tree: a line is read from nodes; are nodes a tree?
-/
import Derived.Test.YtllgkdkjcbohcaaGreatDoorZGo
import Derived.Test.YtllgkdkjcbohcaaGreatDoorZTree3
namespace Go.Proofs.YtllgkdkjcbohcaaGreatDoor
open Go.RowKit
theorem nodsL_cons {L : List NodM} {k : Nat} {x : NodM} (h : L[k]? = some x) : nodsL L k = x.nod :: nodsL L (k + 1) := by
  obtain ⟨hl, rfl⟩ := List.getElem?_eq_some_iff.1 h
  unfold nodsL
  rw [List.drop_eq_getElem_cons hl]
  rfl
theorem right67 {n : Nod} (h : rightN n = true) : (n.op = 6 ∨ n.op = 7) → 0 ≤ n.n ∧ (n.aop = 6 ∨ n.n = 0) := fun ho => by
  unfold rightN at h
  simp only [Bool.and_eq_true] at h
  have h2 := h.2
  rw [if_neg (by omega), if_pos ho] at h2
  simp only [Bool.and_eq_true, decide_eq_true_eq] at h2
  omega
theorem right8 {n : Nod} (h : rightN n = true) (ho : n.op = 8) : 0 < n.n := by
  unfold rightN at h
  simp only [Bool.and_eq_true] at h
  have h2 := h.2
  rw [if_pos ho] at h2
  simp only [decide_eq_true_eq] at h2
  omega
set_option maxHeartbeats 8000000 in
set_option maxRecDepth 100000 in
theorem tree_expression (p : Option Addr) (c : Nat) (L : List NodM) (hd0 : L.length ≤ 400) : ∀ m, ExpC m p c L := by
  intro m
  induction m using Nat.strongRecOn with
  | _ m ihs =>
  intro b k d G w fp hm hk hdk hR hB hO hS hGl
  refine enterR (args := [_]) hS hO Tryz.func74 rfl Tryz.ntmps74 (by simp) ?_
  have hfp := own_wkr hO
  clear hO hS
  by_cases hlt : k < L.length
  case neg =>
    have hnone : exF d (nodsL L k) = none := by
      have : nodsL L k = [] := by unfold nodsL; rw [List.drop_eq_nil_of_le (by omega)]; rfl
      rw [this, exF_nil]
    (repeat' (first|refine zza ?_|refine zc9 ?_|refine zzb fun w hw => ?_|refine zzh fun _ => ?_|refine zzi fun _ _ => ?_|refine zzj (fun _ => ?_) fun _ => ?_))
    refine CW_seq ?_
    (repeat' (first|refine zza ?_|refine zc9 ?_|refine zzb fun w hw => ?_|refine zzh fun _ => ?_|refine zzi fun _ _ => ?_|refine zzj (fun _ => ?_) fun _ => ?_))
    (apply WL_callUP1 (h := wkr b p L.length c k d); (first | exact .here | exact .there .here | exact .there (.there .here) | exact .there (.there (.there .here)) | exact .there (.there (.there (.there .here))) | exact .there (.there (.there (.there (.there .here)))) | exact .there (.there (.there (.there (.there (.there .here)))))); (first | exact .here | exact .there .here | exact .there (.there .here) | exact .there (.there (.there .here)) | exact .there (.there (.there (.there .here))) | exact .there (.there (.there (.there (.there .here)))) | exact .there (.there (.there (.there (.there (.there .here)))))); rfl; rfl; rfl; (intro W fp hO hS; exact tree_fail b p L.length c k d G W fp hO hS))
    (repeat' (first|refine zza ?_|refine zc9 ?_|refine zzb fun w hw => ?_|refine zzh fun _ => ?_|refine zzi fun _ _ => ?_|refine zzj (fun _ => ?_) fun _ => ?_))
    exact .inr ⟨(k : Int), hnone, rfl, Rd.grow_refl _ _, hw.ent zent⟩
  obtain ⟨m, rfl⟩ : ∃ q, m = q + 1 := ⟨m - 1, by omega⟩
  have ih := ihs m (by omega)
  clear ihs
  obtain ⟨x, hx⟩ : ∃ x, L[k]? = some x := ⟨L[k], by simp [hlt]⟩
  have hxB := hB x (List.mem_of_getElem? hx)
  obtain ⟨Z, hZ⟩ : ∃ Z, exF d (nodsL L k) = Z := ⟨_, rfl⟩
  have hcons := hZ
  rw [nodsL_cons hx, exF_cons] at hcons
  (repeat' (first|refine zza ?_|refine zc9 ?_|refine zzb fun w hw => ?_|refine zzh fun _ => ?_|refine zzi fun _ _ => ?_|refine zzj (fun _ => ?_) fun _ => ?_))
  refine CW_seq ?_
  (repeat' (first|refine zza ?_|refine zc9 ?_|refine zzb fun w hw => ?_|refine zzh fun _ => ?_|refine zzi fun _ _ => ?_|refine zzj (fun _ => ?_) fun _ => ?_))
  (apply WQ_callV; rfl; rfl; rfl; (intro W hW; exact tree_right x W hxB.text hxB.numsL (hGl W hW.keep)))
  obtain ⟨rr, hrr⟩ : ∃ rr, rightN x.nod = rr := ⟨_, rfl⟩
  rw [hrr] at hcons ⊢
  cases rr with
  | false =>
    rw [if_pos rfl] at hcons
    (repeat' (first|refine zza ?_|refine zc9 ?_|refine zzb fun w hw => ?_|refine zzh fun _ => ?_|refine zzi fun _ _ => ?_|refine zzj (fun _ => ?_) fun _ => ?_))
    (apply WL_callUP1 (h := wkr b p L.length c k d); (first | exact .here | exact .there .here | exact .there (.there .here) | exact .there (.there (.there .here)) | exact .there (.there (.there (.there .here))) | exact .there (.there (.there (.there (.there .here)))) | exact .there (.there (.there (.there (.there (.there .here)))))); (first | exact .here | exact .there .here | exact .there (.there .here) | exact .there (.there (.there .here)) | exact .there (.there (.there (.there .here))) | exact .there (.there (.there (.there (.there .here)))) | exact .there (.there (.there (.there (.there (.there .here)))))); rfl; rfl; rfl; (intro W fp hO hS; exact tree_fail b p L.length c k d G W fp hO hS))
    (repeat' (first|refine zza ?_|refine zc9 ?_|refine zzb fun w hw => ?_|refine zzh fun _ => ?_|refine zzi fun _ _ => ?_|refine zzj (fun _ => ?_) fun _ => ?_))
    exact .inr ⟨(k : Int), by rw [hZ, hcons], rfl, Rd.grow_refl _ _, hw.ent zent⟩
  | true =>
    rw [if_neg (by decide)] at hcons
    (repeat' (first|refine zza ?_|refine zc9 ?_|refine zzb fun w hw => ?_|refine zzh fun _ => ?_|refine zzi fun _ _ => ?_|refine zzj (fun _ => ?_) fun _ => ?_))
    apply WB_alloc rfl rfl
    intro b3
    obtain ⟨op, aop, af, ag, n, nums, text⟩ := x
    (repeat' (first|refine zza ?_|refine zc9 ?_|refine zzb fun w hw => ?_|refine zzh fun _ => ?_|refine zzi fun _ _ => ?_))
    rw [show (k : Int) + 1 = ((k + 1 : Nat) : Int) by omega]
    refine CW_ent (m' := [blk b3 32 #[.int .i64 op, .int .i64 aop, .int .i64 af, .int .i64 ag, .int .i64 n, .slice nums.p nums.xs.length nums.c, .string ⟨text.toArray⟩], wkr b p L.length c (k + 1) d, ro w fp G]) (Ent.consK (k := Ent.consK (k := Ent.cons zpk Ent.nil) zpk) zpk) ?_
    by_cases h1 : op = 1
    · subst h1
      replace hcons := (if_pos (show (1 : Int) = 1 ∨ (1 : Int) = 2 ∨ (1 : Int) = 3 from .inl rfl)).symm.trans hcons
      (repeat' (first|refine zza ?_|refine zc9 ?_|refine zzb fun w hw => ?_|refine zzh fun _ => ?_|refine zzi fun _ _ => ?_|refine zzj (fun _ => ?_) fun _ => ?_))
      exact .inl ⟨(G, .leaf ⟨1, aop, af, ag, n, nums.xs, text⟩, k + 1, .iface 195 (.agg #[.slice nums.p nums.xs.length nums.c])), ⟨hZ.trans hcons.symm, by dsimp only; omega, by dsimp only; omega, .inl ⟨rfl, _, _, rfl, hxB.nums⟩⟩, rfl, Rd.grow_refl _ _, hw.ent zent⟩
    by_cases h2 : op = 2
    · subst h2
      replace hcons := (if_pos (show (2 : Int) = 1 ∨ (2 : Int) = 2 ∨ (2 : Int) = 3 from .inr (.inl rfl))).symm.trans hcons
      (repeat' (first|refine zza ?_|refine zc9 ?_|refine zzb fun w hw => ?_|refine zzh fun _ => ?_|refine zzi fun _ _ => ?_|refine zzj (fun _ => ?_) fun _ => ?_))
      exact .inl ⟨(G, .leaf ⟨2, aop, af, ag, n, nums.xs, text⟩, k + 1, .iface 196 (.agg #[.string ⟨text.toArray⟩])), ⟨hZ.trans hcons.symm, by dsimp only; omega, by dsimp only; omega, .inr (.inl ⟨rfl, rfl⟩)⟩, rfl, Rd.grow_refl _ _, hw.ent zent⟩
    by_cases h3 : op = 3
    · subst h3
      replace hcons := (if_pos (show (3 : Int) = 1 ∨ (3 : Int) = 2 ∨ (3 : Int) = 3 from .inr (.inr rfl))).symm.trans hcons
      (repeat' (first|refine zza ?_|refine zc9 ?_|refine zzb fun w hw => ?_|refine zzh fun _ => ?_|refine zzi fun _ _ => ?_|refine zzj (fun _ => ?_) fun _ => ?_))
      exact .inl ⟨(G, .leaf ⟨3, aop, af, ag, n, nums.xs, text⟩, k + 1, .iface 144 (.agg #[.string ⟨text.toArray⟩])), ⟨hZ.trans hcons.symm, by dsimp only; omega, by dsimp only; omega, .inr (.inr (.inl ⟨rfl, rfl⟩))⟩, rfl, Rd.grow_refl _ _, hw.ent zent⟩
    replace hcons := (if_neg (show ¬ (op = 1 ∨ op = 2 ∨ op = 3) by omega)).symm.trans hcons
    by_cases h45 : op = 4 ∨ op = 5
    · replace hcons := (if_pos h45).symm.trans hcons
      by_cases hd : d = 0
      · replace hcons := (if_pos hd).symm.trans hcons
        subst hd
        rcases h45 with rfl | rfl
        · (repeat' (first|refine zza ?_|refine zc9 ?_|refine zzb fun w hw => ?_|refine zzh fun _ => ?_|refine zzi fun _ _ => ?_|refine zzj (fun _ => ?_) fun _ => ?_))
          repeat (refine CW_seq ?_; (repeat' (first|refine zza ?_|refine zc9 ?_|refine zzb fun w hw => ?_|refine zzh fun _ => ?_|refine zzi fun _ _ => ?_|refine zzj (fun _ => ?_) fun _ => ?_)))
          (apply WL_callUP1 (h := wkr b p L.length c (k + 1) 0); (first | exact .here | exact .there .here | exact .there (.there .here) | exact .there (.there (.there .here)) | exact .there (.there (.there (.there .here))) | exact .there (.there (.there (.there (.there .here)))) | exact .there (.there (.there (.there (.there (.there .here)))))); (first | exact .here | exact .there .here | exact .there (.there .here) | exact .there (.there (.there .here)) | exact .there (.there (.there (.there .here))) | exact .there (.there (.there (.there (.there .here)))) | exact .there (.there (.there (.there (.there (.there .here)))))); rfl; rfl; rfl; (intro W fp hO hS; exact tree_fail b p L.length c (k + 1) 0 G W fp hO hS))
          (repeat' (first|refine zza ?_|refine zc9 ?_|refine zzb fun w hw => ?_|refine zzh fun _ => ?_|refine zzi fun _ _ => ?_|refine zzj (fun _ => ?_) fun _ => ?_))
          exact .inr ⟨((k + 1 : Nat) : Int), hZ.trans hcons.symm, rfl, Rd.grow_refl _ _, hw.ent zent⟩
        · (repeat' (first|refine zza ?_|refine zc9 ?_|refine zzb fun w hw => ?_|refine zzh fun _ => ?_|refine zzi fun _ _ => ?_|refine zzj (fun _ => ?_) fun _ => ?_))
          repeat (refine CW_seq ?_; (repeat' (first|refine zza ?_|refine zc9 ?_|refine zzb fun w hw => ?_|refine zzh fun _ => ?_|refine zzi fun _ _ => ?_|refine zzj (fun _ => ?_) fun _ => ?_)))
          (apply WL_callUP1 (h := wkr b p L.length c (k + 1) 0); (first | exact .here | exact .there .here | exact .there (.there .here) | exact .there (.there (.there .here)) | exact .there (.there (.there (.there .here))) | exact .there (.there (.there (.there (.there .here)))) | exact .there (.there (.there (.there (.there (.there .here)))))); (first | exact .here | exact .there .here | exact .there (.there .here) | exact .there (.there (.there .here)) | exact .there (.there (.there (.there .here))) | exact .there (.there (.there (.there (.there .here)))) | exact .there (.there (.there (.there (.there (.there .here)))))); rfl; rfl; rfl; (intro W fp hO hS; exact tree_fail b p L.length c (k + 1) 0 G W fp hO hS))
          (repeat' (first|refine zza ?_|refine zc9 ?_|refine zzb fun w hw => ?_|refine zzh fun _ => ?_|refine zzi fun _ _ => ?_|refine zzj (fun _ => ?_) fun _ => ?_))
          exact .inr ⟨((k + 1 : Nat) : Int), hZ.trans hcons.symm, rfl, Rd.grow_refl _ _, hw.ent zent⟩
      · replace hcons := (if_neg hd).symm.trans hcons
        have hd0 : 0 < d := by omega
        rcases h45 with rfl | rfl
        · (repeat' (first|refine zza ?_|refine zc9 ?_|refine zzb fun w hw => ?_|refine zzh fun _ => ?_|refine zzi fun _ _ => ?_|refine zzj (fun _ => ?_) fun _ => ?_))
          repeat (refine CW_seq ?_; (repeat' (first|refine zza ?_|refine zc9 ?_|refine zzb fun w hw => ?_|refine zzh fun _ => ?_|refine zzi fun _ _ => ?_|refine zzj (fun _ => ?_) fun _ => ?_)))
          exact .inl ⟨(G, .leaf ⟨4, aop, af, ag, n, nums.xs, text⟩, k + 1, .iface 198 (.agg #[.int .i64 4])), ⟨hZ.trans hcons.symm, by dsimp only; omega, by dsimp only; omega, .inr (.inr (.inr ⟨.inl rfl, rfl⟩))⟩, rfl, Rd.grow_refl _ _, hw.ent zent⟩
        · (repeat' (first|refine zza ?_|refine zc9 ?_|refine zzb fun w hw => ?_|refine zzh fun _ => ?_|refine zzi fun _ _ => ?_|refine zzj (fun _ => ?_) fun _ => ?_))
          repeat (refine CW_seq ?_; (repeat' (first|refine zza ?_|refine zc9 ?_|refine zzb fun w hw => ?_|refine zzh fun _ => ?_|refine zzi fun _ _ => ?_|refine zzj (fun _ => ?_) fun _ => ?_)))
          exact .inl ⟨(G, .leaf ⟨5, aop, af, ag, n, nums.xs, text⟩, k + 1, .iface 198 (.agg #[.int .i64 5])), ⟨hZ.trans hcons.symm, by dsimp only; omega, by dsimp only; omega, .inr (.inr (.inr ⟨.inr rfl, rfl⟩))⟩, rfl, Rd.grow_refl _ _, hw.ent zent⟩
    replace hcons := (if_neg h45).symm.trans hcons
    have h4 : ¬ op = 4 := fun h => h45 (.inl h)
    have h5 : ¬ op = 5 := fun h => h45 (.inr h)
    clear h45
    have hrt := right67 (n := ⟨op, aop, af, ag, n, nums.xs, text⟩) hrr
    dsimp only at hrt
    have hFun := tree_function m p c L hd0 ih
    by_cases h6 : op = 6
    · replace hcons := (if_pos h6).symm.trans hcons
      obtain ⟨hn0, h6n⟩ := hrt (.inl h6)
      subst h6
      (repeat' (first|refine zza ?_|refine zc9 ?_|refine zzb fun w hw => ?_|refine zzh fun _ => ?_|refine zzi fun _ _ => ?_|refine zzj (fun _ => ?_) fun _ => ?_))
      repeat (refine CW_seq ?_; (repeat' (first|refine zza ?_|refine zc9 ?_|refine zzb fun w hw => ?_|refine zzh fun _ => ?_|refine zzi fun _ _ => ?_|refine zzj (fun _ => ?_) fun _ => ?_)))
      refine WL_callGP (m1 := [wkr b p L.length c (k + 1) d]) (r := [blk b3 32 #[.int .i64 6, .int .i64 aop, .int .i64 af, .int .i64 ag, .int .i64 n, .slice nums.p nums.xs.length nums.c, .string ⟨text.toArray⟩]]) (X := Rd × Exs × Nat × SlV Value) (Y := Int) (V := fun z => .agg #[.int .i64 aop, .int .i64 af, .int .i64 ag, .int .i64 n, .slice z.2.2.2.p z.2.2.2.xs.length z.2.2.2.c]) (Gx := fun z => z.1) (M := fun z => [wkr b p L.length c z.2.2.1 d]) (I := fun z => funF d ⟨6, aop, af, ag, n, nums.xs, text⟩ (nodsL L (k + 1)) = some (z.2.1, nodsL L z.2.2.1) ∧ k + 1 ≤ z.2.2.1 ∧ z.2.2.1 ≤ L.length ∧ z.2.1.rep z.1 z.2.2.2.xs ∧ Row encV 1 z.1 z.2.2.2.p z.2.2.2.c z.2.2.2.xs) (C := wrongP) (Gy := fun _ => G) (MP := fun _ => []) (J := fun _ => funF d ⟨6, aop, af, ag, n, nums.xs, text⟩ (nodsL L (k + 1)) = none) zent rfl rfl rfl (fun W fp' hW hO hS hF => hFun b (k + 1) d ⟨6, aop, af, ag, n, nums, text⟩ G W fp' (by omega) (by omega) (by omega) hn0 hxB.n h6n hR hB hO hS (fun W' hk' => hGl W' (hW.keep.tr hk' hF))) ?_ ?_
      case refine_2 =>
        rintro y hno _
        replace hcons := hcons
        rw [show funF d (NodM.nod ⟨6, aop, af, ag, n, nums, text⟩) (nodsL L (k + 1)) = none from hno] at hcons
        (repeat' (first|refine zza ?_|refine zc9 ?_|refine zzb fun w hw => ?_|refine zzh fun _ => ?_|refine zzi fun _ _ => ?_|refine zzj (fun _ => ?_) fun _ => ?_))
        exact .inr ⟨y, hZ.trans hcons.symm, rfl, Rd.grow_refl _ _, hw.ent zent⟩
      rintro ⟨G1, bs, k1, vs⟩ ⟨he1, hk1, hk1L, hr1, hrow1⟩ hg1
      dsimp only at he1 hk1 hk1L hr1 hrow1 hg1 ⊢
      rw [show funF d (NodM.nod ⟨6, aop, af, ag, n, nums, text⟩) (nodsL L (k + 1)) = _ from he1] at hcons
      simp only at hcons
      refine zzh fun b4 => ?_
      refine zza ?_
      refine zza ?_
      refine zza ?_
      refine zza ?_
      refine CW_ent (m' := [blk b4 201 #[.int .i64 aop, .int .i64 af, .int .i64 ag, .int .i64 n, .slice vs.p vs.xs.length vs.c], wkr b p L.length c k1 d, ro w fp G1, blk b3 32 #[.int .i64 6, .int .i64 aop, .int .i64 af, .int .i64 ag, .int .i64 n, .slice nums.p nums.xs.length nums.c, .string ⟨text.toArray⟩]]) (Ent.consK (k := Ent.cons (.there .here) (Ent.cons .here (Ent.cons .here Ent.nil))) .here) ?_
      refine CW_perm 3 [0, 1, 2] [blk b4 201 #[.int .i64 aop, .int .i64 af, .int .i64 ag, .int .i64 n, .slice vs.p vs.xs.length vs.c], blk b3 32 #[.int .i64 6, .int .i64 aop, .int .i64 af, .int .i64 ag, .int .i64 n, .slice nums.p nums.xs.length nums.c, .string ⟨text.toArray⟩]] [] Cov.nil (pm := [wkr b p L.length c k1 d, ro w fp G1]) zent (by kernel_rfl) (by decide +kernel) (by kernel_rfl) ?_
      (refine WP_op rfl rfl rfl zyi ?_)
      (refine WP_op rfl rfl rfl zyi ?_)
      refine WP_callG (m1 := [wkr b p L.length c k1 d]) (r := [blk b4 201 #[.int .i64 aop, .int .i64 af, .int .i64 ag, .int .i64 n, .slice vs.p vs.xs.length vs.c], blk b3 32 #[.int .i64 6, .int .i64 aop, .int .i64 af, .int .i64 ag, .int .i64 n, .slice nums.p nums.xs.length nums.c, .string ⟨text.toArray⟩]]) (X := Rd × Ex × Nat × Value) (Y := Int) (V := fun z => z.2.2.2) (Gx := fun z => z.1) (M := fun z => [wkr b p L.length c z.2.2.1 d]) (I := fun z => exF d (nodsL L k1) = some (z.2.1, nodsL L z.2.2.1) ∧ k1 < z.2.2.1 ∧ z.2.2.1 ≤ L.length ∧ z.2.1.rep z.1 z.2.2.2) (C := wrongP) (Gy := fun _ => G1) (MP := fun _ => []) (J := fun _ => exF d (nodsL L k1) = none) rfl zent (by decide +kernel) rfl rfl rfl (fun W fp' hW hO hS hF => ih b k1 d G1 W fp' (by omega) (by omega) (by omega) (hR.mono hg1.1) (fun x hx => (hB x hx).mono hg1.1) hO hS (fun W' hk' => hGl W' (hW.keep.tr hk' hF))) (fun z _ => ⟨[], zent⟩) ?_ ?_
      case refine_2 =>
        rintro y hno _
        rw [hno] at hcons
        (repeat' (first|refine zza ?_|refine zc9 ?_|refine zzb fun w hw => ?_|refine zzh fun _ => ?_|refine zzi fun _ _ => ?_|refine zzj (fun _ => ?_) fun _ => ?_))
        exact .inr ⟨y, hZ.trans hcons.symm, rfl, Rd.grow_refl _ _, hw.ent (Ent.roLe hg1.1 zpk Ent.nil)⟩
      rintro ⟨G2, e2, k2, v2⟩ ⟨he2, hk2, hk2L, hr2⟩ hg2
      dsimp only at he2 hk2 hk2L hr2 hg2 ⊢
      obtain ⟨T2, u2, rfl⟩ := Ex.rep_iface hr2
      rw [he2] at hcons
      simp only at hcons
      refine WP_end ?_
      (repeat' (first|refine zza ?_|refine zc9 ?_|refine zzb fun w hw => ?_|refine zzh fun _ => ?_|refine zzi fun _ _ => ?_|refine zzj (fun _ => ?_) fun _ => ?_))
      exact .inl ⟨(G2, .one ⟨6, aop, af, ag, n, nums.xs, text⟩ bs e2, k2, .iface 204 (.agg #[.int .i64 aop, .int .i64 af, .int .i64 ag, .int .i64 n, .slice vs.p vs.xs.length vs.c, .iface T2 u2])), ⟨hZ.trans hcons.symm, by dsimp only; omega, hk2L, ⟨vs.p, vs.c, vs.xs, _, rfl, hrow1.mono hg2.1, Exs.rep_mono hg2.1 hr1, hr2⟩⟩, rfl, Rd.grow_tr hg1 hg2, hw.ent zent⟩
    by_cases h7 : op = 7
    · replace hcons := (if_pos h7).symm.trans ((if_neg h6).symm.trans hcons)
      obtain ⟨hn0, h6n⟩ := hrt (.inr h7)
      subst h7
      (repeat' (first|refine zza ?_|refine zc9 ?_|refine zzb fun w hw => ?_|refine zzh fun _ => ?_|refine zzi fun _ _ => ?_|refine zzj (fun _ => ?_) fun _ => ?_))
      repeat (refine CW_seq ?_; (repeat' (first|refine zza ?_|refine zc9 ?_|refine zzb fun w hw => ?_|refine zzh fun _ => ?_|refine zzi fun _ _ => ?_|refine zzj (fun _ => ?_) fun _ => ?_)))
      refine WL_callGP (m1 := [wkr b p L.length c (k + 1) d]) (r := [blk b3 32 #[.int .i64 7, .int .i64 aop, .int .i64 af, .int .i64 ag, .int .i64 n, .slice nums.p nums.xs.length nums.c, .string ⟨text.toArray⟩]]) (X := Rd × Ex × Nat × Value) (Y := Int) (V := fun z => z.2.2.2) (Gx := fun z => z.1) (M := fun z => [wkr b p L.length c z.2.2.1 d]) (I := fun z => exF d (nodsL L (k + 1)) = some (z.2.1, nodsL L z.2.2.1) ∧ (k + 1) < z.2.2.1 ∧ z.2.2.1 ≤ L.length ∧ z.2.1.rep z.1 z.2.2.2) (C := wrongP) (Gy := fun _ => G) (MP := fun _ => []) (J := fun _ => exF d (nodsL L (k + 1)) = none) zent rfl rfl rfl (fun W fp' hW hO hS hF => ih b (k + 1) d G W fp' (by omega) (by omega) (by omega) hR hB hO hS (fun W' hk' => hGl W' (hW.keep.tr hk' hF))) ?_ ?_
      case refine_2 =>
        rintro y hno _
        rw [hno] at hcons
        (repeat' (first|refine zza ?_|refine zc9 ?_|refine zzb fun w hw => ?_|refine zzh fun _ => ?_|refine zzi fun _ _ => ?_|refine zzj (fun _ => ?_) fun _ => ?_))
        exact .inr ⟨y, hZ.trans hcons.symm, rfl, Rd.grow_refl _ _, hw.ent zent⟩
      rintro ⟨G0, e0, k0, v0⟩ ⟨he0, hk0, hk0L, hr0⟩ hg0
      dsimp only at he0 hk0 hk0L hr0 hg0 ⊢
      obtain ⟨T0, u0, rfl⟩ := Ex.rep_iface hr0
      rw [he0] at hcons
      simp only at hcons
      (repeat' (first|refine zza ?_|refine zc9 ?_|refine zzb fun w hw => ?_|refine zzh fun _ => ?_|refine zzi fun _ _ => ?_|refine zzj (fun _ => ?_) fun _ => ?_))
      repeat (refine CW_seq ?_; (repeat' (first|refine zza ?_|refine zc9 ?_|refine zzb fun w hw => ?_|refine zzh fun _ => ?_|refine zzi fun _ _ => ?_|refine zzj (fun _ => ?_) fun _ => ?_)))
      refine WL_callGP (m1 := [wkr b p L.length c k0 d]) (r := [blk b3 32 #[.int .i64 7, .int .i64 aop, .int .i64 af, .int .i64 ag, .int .i64 n, .slice nums.p nums.xs.length nums.c, .string ⟨text.toArray⟩]]) (X := Rd × Exs × Nat × SlV Value) (Y := Int) (V := fun z => .agg #[.int .i64 aop, .int .i64 af, .int .i64 ag, .int .i64 n, .slice z.2.2.2.p z.2.2.2.xs.length z.2.2.2.c]) (Gx := fun z => z.1) (M := fun z => [wkr b p L.length c z.2.2.1 d]) (I := fun z => funF d ⟨7, aop, af, ag, n, nums.xs, text⟩ (nodsL L k0) = some (z.2.1, nodsL L z.2.2.1) ∧ k0 ≤ z.2.2.1 ∧ z.2.2.1 ≤ L.length ∧ z.2.1.rep z.1 z.2.2.2.xs ∧ Row encV 1 z.1 z.2.2.2.p z.2.2.2.c z.2.2.2.xs) (C := wrongP) (Gy := fun _ => G0) (MP := fun _ => []) (J := fun _ => funF d ⟨7, aop, af, ag, n, nums.xs, text⟩ (nodsL L k0) = none) zent rfl rfl rfl (fun W fp' hW hO hS hF => hFun b k0 d ⟨7, aop, af, ag, n, nums, text⟩ G0 W fp' (by omega) (by omega) (by omega) hn0 hxB.n h6n (hR.mono hg0.1) (fun x hx => (hB x hx).mono hg0.1) hO hS (fun W' hk' => hGl W' (hW.keep.tr hk' hF))) ?_ ?_
      case refine_2 =>
        rintro y hno _
        rw [show funF d (NodM.nod ⟨7, aop, af, ag, n, nums, text⟩) (nodsL L k0) = none from hno] at hcons
        (repeat' (first|refine zza ?_|refine zc9 ?_|refine zzb fun w hw => ?_|refine zzh fun _ => ?_|refine zzi fun _ _ => ?_|refine zzj (fun _ => ?_) fun _ => ?_))
        exact .inr ⟨y, hZ.trans hcons.symm, rfl, Rd.grow_refl _ _, hw.ent (Ent.roLe hg0.1 zpk Ent.nil)⟩
      rintro ⟨G1, bs, k1, vs⟩ ⟨he1, hk1, hk1L, hr1, hrow1⟩ hg1
      dsimp only at he1 hk1 hk1L hr1 hrow1 hg1 ⊢
      rw [show funF d (NodM.nod ⟨7, aop, af, ag, n, nums, text⟩) (nodsL L k0) = _ from he1] at hcons
      simp only at hcons
      refine zzh fun b4 => ?_
      refine zza ?_
      refine zza ?_
      refine zza ?_
      refine zza ?_
      refine CW_ent (m' := [blk b4 201 #[.int .i64 aop, .int .i64 af, .int .i64 ag, .int .i64 n, .slice vs.p vs.xs.length vs.c], wkr b p L.length c k1 d, ro w fp G1, blk b3 32 #[.int .i64 7, .int .i64 aop, .int .i64 af, .int .i64 ag, .int .i64 n, .slice nums.p nums.xs.length nums.c, .string ⟨text.toArray⟩]]) (Ent.consK (k := Ent.cons (.there .here) (Ent.cons .here (Ent.cons .here Ent.nil))) .here) ?_
      refine CW_perm 4 [0, 1, 2, 3] [blk b4 201 #[.int .i64 aop, .int .i64 af, .int .i64 ag, .int .i64 n, .slice vs.p vs.xs.length vs.c], blk b3 32 #[.int .i64 7, .int .i64 aop, .int .i64 af, .int .i64 ag, .int .i64 n, .slice nums.p nums.xs.length nums.c, .string ⟨text.toArray⟩]] [] Cov.nil (pm := [wkr b p L.length c k1 d, ro w fp G1]) zent (by kernel_rfl) (by decide +kernel) (by kernel_rfl) ?_
      (refine WP_op rfl rfl rfl zyi ?_)
      (refine WP_op rfl rfl rfl zyi ?_)
      (refine WP_op rfl rfl rfl zyi ?_)
      refine WP_callG (m1 := [wkr b p L.length c k1 d]) (r := [blk b4 201 #[.int .i64 aop, .int .i64 af, .int .i64 ag, .int .i64 n, .slice vs.p vs.xs.length vs.c], blk b3 32 #[.int .i64 7, .int .i64 aop, .int .i64 af, .int .i64 ag, .int .i64 n, .slice nums.p nums.xs.length nums.c, .string ⟨text.toArray⟩]]) (X := Rd × Ex × Nat × Value) (Y := Int) (V := fun z => z.2.2.2) (Gx := fun z => z.1) (M := fun z => [wkr b p L.length c z.2.2.1 d]) (I := fun z => exF d (nodsL L k1) = some (z.2.1, nodsL L z.2.2.1) ∧ k1 < z.2.2.1 ∧ z.2.2.1 ≤ L.length ∧ z.2.1.rep z.1 z.2.2.2) (C := wrongP) (Gy := fun _ => G1) (MP := fun _ => []) (J := fun _ => exF d (nodsL L k1) = none) rfl zent (by decide +kernel) rfl rfl rfl (fun W fp' hW hO hS hF => ih b k1 d G1 W fp' (by omega) (by omega) (by omega) ((hR.mono hg0.1).mono hg1.1) (fun x hx => ((hB x hx).mono hg0.1).mono hg1.1) hO hS (fun W' hk' => hGl W' (hW.keep.tr hk' hF))) (fun z _ => ⟨[], zent⟩) ?_ ?_
      case refine_2 =>
        rintro y hno _
        rw [hno] at hcons
        (repeat' (first|refine zza ?_|refine zc9 ?_|refine zzb fun w hw => ?_|refine zzh fun _ => ?_|refine zzi fun _ _ => ?_|refine zzj (fun _ => ?_) fun _ => ?_))
        exact .inr ⟨y, hZ.trans hcons.symm, rfl, Rd.grow_refl _ _, hw.ent (Ent.roLe (Rd.le_trans hg0.1 hg1.1) zpk Ent.nil)⟩
      rintro ⟨G2, e2, k2, v2⟩ ⟨he2, hk2, hk2L, hr2⟩ hg2
      dsimp only at he2 hk2 hk2L hr2 hg2 ⊢
      obtain ⟨T2, u2, rfl⟩ := Ex.rep_iface hr2
      rw [he2] at hcons
      simp only at hcons
      refine WP_end ?_
      (repeat' (first|refine zza ?_|refine zc9 ?_|refine zzb fun w hw => ?_|refine zzh fun _ => ?_|refine zzi fun _ _ => ?_|refine zzj (fun _ => ?_) fun _ => ?_))
      exact .inl ⟨(G2, .two ⟨7, aop, af, ag, n, nums.xs, text⟩ e0 bs e2, k2, .iface 206 (.agg #[.iface T0 u0, .int .i64 aop, .int .i64 af, .int .i64 ag, .int .i64 n, .slice vs.p vs.xs.length vs.c, .iface T2 u2])), ⟨hZ.trans hcons.symm, by dsimp only; omega, hk2L, ⟨vs.p, vs.c, vs.xs, _, _, rfl, hrow1.mono hg2.1, Ex.rep_mono (Rd.le_trans hg1.1 hg2.1) hr0, Exs.rep_mono hg2.1 hr1, hr2⟩⟩, rfl, Rd.grow_tr hg0 (Rd.grow_tr hg1 hg2), hw.ent zent⟩
    by_cases h8 : op = 8
    · replace hcons := (if_pos h8).symm.trans ((if_neg h7).symm.trans ((if_neg h6).symm.trans hcons))
      have hn8 := right8 (n := ⟨op, aop, af, ag, n, nums.xs, text⟩) hrr h8
      have hn64 := hxB.n
      dsimp only at hn8 hn64
      subst h8
      obtain ⟨N, rfl⟩ := Int.eq_ofNat_of_zero_le (show 0 ≤ n by omega)
      unfold I64 at hn64
      (repeat' (first|refine zza ?_|refine zc9 ?_|refine zzb fun w hw => ?_|refine zzh fun _ => ?_|refine zzi fun _ _ => ?_|refine zzj (fun _ => ?_) fun _ => ?_))
      repeat (refine CW_seq ?_; (repeat' (first|refine zza ?_|refine zc9 ?_|refine zzb fun w hw => ?_|refine zzh fun _ => ?_|refine zzi fun _ _ => ?_|refine zzj (fun _ => ?_) fun _ => ?_)))
      refine WL_callGP (m1 := [wkr b p L.length c (k + 1) d]) (r := [blk b3 32 #[.int .i64 8, .int .i64 aop, .int .i64 af, .int .i64 ag, .int .i64 (N : Int), .slice nums.p nums.xs.length nums.c, .string ⟨text.toArray⟩]]) (X := Rd × Ex × Nat × Value) (Y := Int) (V := fun z => z.2.2.2) (Gx := fun z => z.1) (M := fun z => [wkr b p L.length c z.2.2.1 d]) (I := fun z => exF d (nodsL L (k + 1)) = some (z.2.1, nodsL L z.2.2.1) ∧ (k + 1) < z.2.2.1 ∧ z.2.2.1 ≤ L.length ∧ z.2.1.rep z.1 z.2.2.2) (C := wrongP) (Gy := fun _ => G) (MP := fun _ => []) (J := fun _ => exF d (nodsL L (k + 1)) = none) zent rfl rfl rfl (fun W fp' hW hO hS hF => ih b (k + 1) d G W fp' (by omega) (by omega) (by omega) hR hB hO hS (fun W' hk' => hGl W' (hW.keep.tr hk' hF))) ?_ ?_
      case refine_2 =>
        rintro y hno _
        rw [hno] at hcons
        (repeat' (first|refine zza ?_|refine zc9 ?_|refine zzb fun w hw => ?_|refine zzh fun _ => ?_|refine zzi fun _ _ => ?_|refine zzj (fun _ => ?_) fun _ => ?_))
        exact .inr ⟨y, hZ.trans hcons.symm, rfl, Rd.grow_refl _ _, hw.ent zent⟩
      rintro ⟨G0, e0, k0, v0⟩ ⟨he0, hk0, hk0L, hr0⟩ hg0
      dsimp only at he0 hk0 hk0L hr0 hg0 ⊢
      obtain ⟨T0, u0, rfl⟩ := Ex.rep_iface hr0
      rw [he0] at hcons
      simp only at hcons
      (repeat' (first|refine zza ?_|refine zc9 ?_|refine zzb fun w hw => ?_|refine zzh fun _ => ?_|refine zzi fun _ _ => ?_|refine zzj (fun _ => ?_) fun _ => ?_))
      repeat (refine CW_seq ?_; (repeat' (first|refine zza ?_|refine zc9 ?_|refine zzb fun w hw => ?_|refine zzh fun _ => ?_|refine zzi fun _ _ => ?_|refine zzj (fun _ => ?_) fun _ => ?_)))
      rename_i b4
      have h400k : k0 ≤ 400 := by omega
      refine CW_ent (m' := [blk b4 208 #[.iface T0 u0, .slice none 0 0], sl 90 1 none 0 0 [], wkr b p L.length c k0 d, ro w fp G0, blk b3 32 #[.int .i64 8, .int .i64 aop, .int .i64 af, .int .i64 ag, .int .i64 (N : Int), .slice nums.p nums.xs.length nums.c, .string ⟨text.toArray⟩]]) (Ent.consK (k := Ent.nilown (Ent.cons zpk (Ent.cons zpk (Ent.cons zpk Ent.nil)))) zpk) ?_
      refine CW_loopK [(0,_),(3,_),(7,_),(112,_)] zcov (fun x : Nat × Nat × Rd × Exs × Option Addr × Nat × List Value => [(113, .int .i64 (x.1 : Int))]) (fun x => [blk b4 208 #[.iface T0 u0, .slice x.2.2.2.2.1 x.1 x.2.2.2.2.2.1], sl 90 1 x.2.2.2.2.1 x.1 x.2.2.2.2.2.1 x.2.2.2.2.2.2, wkr b p L.length c x.2.1 d, ro w fp x.2.2.1, blk b3 32 #[.int .i64 8, .int .i64 aop, .int .i64 af, .int .i64 ag, .int .i64 (N : Int), .slice nums.p nums.xs.length nums.c, .string ⟨text.toArray⟩]]) (fun x => x.1 ≤ N ∧ k0 ≤ x.2.1 ∧ x.2.1 ≤ L.length ∧ exsF d x.1 (nodsL L k0) = some (x.2.2.2.1, nodsL L x.2.1) ∧ x.2.2.2.1.rep x.2.2.1 x.2.2.2.2.2.2 ∧ Rd.grow w G0 x.2.2.1) (fun x => N - x.1) (0, k0, G0, .nil, none, 0, []) ⟨Nat.zero_le _, Nat.le_refl _, hk0L, exsF_zero _ _, rfl, Rd.grow_refl _ _⟩ zcov zent ?_
      rintro ⟨i, ki, Gi, bs, sp, sc, vs⟩ ⟨hi, hki, hkiL, hex, hrep, hgr'⟩
      dsimp only at hi hki hkiL hex hrep hgr' ⊢
      have hcnt := exsF_len hex
      rw [nods_len, nods_len] at hcnt
      have hi400 : i ≤ 400 := by omega
      have hle0 := Rd.le_trans hg0.1 hgr'.1
      by_cases hlt : i < N
      · have hs1 := exsF_add (d := d) i 1 (nodsL L k0)
        rw [hex] at hs1
        simp only at hs1
        rw [exsF_one] at hs1
        have hbad : exsF d (i + 1) (nodsL L k0) = none → exF d (nodsL L k) = none := fun h => by
          rw [hZ]
          refine hcons.symm.trans ?_
          rw [show exsF d (NodM.nod ⟨8, aop, af, ag, (N : Int), nums, text⟩).n.toNat (nodsL L k0) = none from exsF_stop h (show i + 1 ≤ N by omega)]
        (repeat' (first|refine zza ?_|refine zzb fun w hw => ?_|refine zzh fun _ => ?_|refine zzi fun _ _ => ?_|refine zzj (fun _ => ?_) fun _ => ?_))
        refine CW_perm 6 [0, 1, 2, 3, 4, 5] [blk b4 208 #[.iface T0 u0, .slice sp i sc], blk b3 32 #[.int .i64 8, .int .i64 aop, .int .i64 af, .int .i64 ag, .int .i64 (N : Int), .slice nums.p nums.xs.length nums.c, .string ⟨text.toArray⟩]] [] Cov.nil (pm := [sl 90 1 sp i sc vs, wkr b p L.length c ki d, ro w fp Gi]) zent (by kernel_rfl) (by decide +kernel) (by kernel_rfl) ?_
        (refine WP_op rfl rfl rfl zyi ?_)
        (refine WP_op rfl rfl rfl zyi ?_)
        (refine WP_op rfl rfl rfl zyi ?_)
        refine WP_callG (m1 := [wkr b p L.length c ki d]) (r := [sl 90 1 sp i sc vs, blk b4 208 #[.iface T0 u0, .slice sp i sc], blk b3 32 #[.int .i64 8, .int .i64 aop, .int .i64 af, .int .i64 ag, .int .i64 (N : Int), .slice nums.p nums.xs.length nums.c, .string ⟨text.toArray⟩]]) (X := Rd × Ex × Nat × Value) (Y := Int) (V := fun z => z.2.2.2) (Gx := fun z => z.1) (M := fun z => [wkr b p L.length c z.2.2.1 d]) (I := fun z => exF d (nodsL L ki) = some (z.2.1, nodsL L z.2.2.1) ∧ ki < z.2.2.1 ∧ z.2.2.1 ≤ L.length ∧ z.2.1.rep z.1 z.2.2.2) (C := wrongP) (Gy := fun _ => Gi) (MP := fun _ => []) (J := fun _ => exF d (nodsL L ki) = none) rfl zent (by decide +kernel) rfl rfl rfl (fun W fp' hW hO hS hF => ih b ki d Gi W fp' (by omega) (by omega) (by omega) (hR.mono hle0) (fun x hx => (hB x hx).mono hle0) hO hS (fun W' hk' => hGl W' (hW.keep.tr hk' hF))) (fun z _ => ⟨[], zent⟩) ?_ ?_
        case refine_2 =>
          rintro y hno _
          rw [hno] at hs1
          have hnone := hbad hs1
          (repeat' (first|refine zza ?_|refine zc9 ?_|refine zzb fun w hw => ?_|refine zzh fun _ => ?_|refine zzi fun _ _ => ?_|refine zzj (fun _ => ?_) fun _ => ?_))
          exact .inr ⟨y, hnone, rfl, Rd.grow_refl _ _, hw.ent (Ent.roLe hle0 zpk Ent.nil)⟩
        rintro ⟨G1, e1, k1, v1⟩ ⟨he1, hk1, hk1L, hr1⟩ hg1
        dsimp only at he1 hk1 hk1L hr1 hg1 ⊢
        obtain ⟨T1, u1, rfl⟩ := Ex.rep_iface hr1
        rw [he1] at hs1
        simp only at hs1
        clear hbad
        apply WP_bslice (hk := rfl) (pm := [ro w fp G1, wkr b p L.length c k1 d, sl 90 1 sp i sc vs]) (he := zent) (hso := by decide +kernel) (hx := rfl) (hl := rfl) (hc := rfl) (hs := rfl) (h0 := rfl) (hg := rfl) (hn := rfl)
        intro bb
        apply WP_append (hk := rfl) (hso := by decide +kernel) (hx := rfl) (hy := rfl) (he := rfl) (hp := .there (.there (.there .here))) (hp2 := .here) (pm := [ro w fp G1, wkr b p L.length c k1 d]) (hr := zent) (hl := rfl) (h1' := rfl) (hmax := by omega) (hmax2 := by omega) (hg := rfl) (hn := rfl)
        intro q c2
        refine WP_end ?_
        (repeat' (first|refine zza ?_|refine zc9 ?_|refine zzb fun w hw => ?_|refine zzh fun _ => ?_|refine zzi fun _ _ => ?_|refine zzj (fun _ => ?_) fun _ => ?_))
        refine EX_loop' (i + 1, k1, G1, bs.app (.cons e1 .nil), q, c2, vs ++ [.iface T1 u1]) ⟨zcov, ?_, by dsimp only; omega, by dsimp only; omega, by dsimp only; omega, hk1L, hs1, Exs.rep_app (Exs.rep_mono hg1.1 hrep) (Exs.rep_one hr1), Rd.grow_tr hgr' hg1⟩
        dsimp only
        exact zent
      · have hiN : i = N := by omega
        subst hiN
        have hvl : vs.length = i := by rw [Exs.rep_len hrep, (exsF_iff.1 hex).2.1]
        replace hcons : some (Ex.pick ⟨8, aop, af, ag, (i : Int), nums.xs, text⟩ e0 bs, nodsL L ki) = Z := by
          refine Eq.trans ?_ hcons
          rw [show exsF d (NodM.nod ⟨8, aop, af, ag, (i : Int), nums, text⟩).n.toNat (nodsL L k0) = _ from hex]
          rfl
        clear hex
        (repeat' (first|refine zza ?_|refine zc9 ?_|refine zzb fun w hw => ?_|refine zzh fun _ => ?_|refine zzi fun _ _ => ?_|refine zzj (fun _ => ?_) fun _ => ?_))
        obtain ⟨G', g', r', h'⟩ := Holds.toRo (α := Value) (enc := encV) (sz := 1) (fun _ => rfl) (by decide) (xs := vs) (e := 90) (n := i) (p := sp) (c := sc) (r := [wkr b p L.length c ki d]) (hw.ent (Ent.cons (.there (.there (.there .here))) (by rw [flat_encV]; exact Ent.cons (.there .here) (Ent.cons (.there .here) Ent.nil)))) (fun f hf i hi => by rw [own_wkr hf, ← hfp]; exact hi)
        exact .inl ⟨(G', .pick ⟨8, aop, af, ag, (i : Int), nums.xs, text⟩ e0 bs, ki, .iface 208 (.agg #[.iface T0 u0, .slice sp vs.length sc])), ⟨hZ.trans hcons.symm, by dsimp only; omega, hkiL, ⟨sp, sc, vs, _, rfl, r', Ex.rep_mono (Rd.le_trans hgr'.1 g'.1) hr0, Exs.rep_mono g'.1 hrep⟩⟩, by rw [hvl]; rfl, Rd.grow_tr hg0 (Rd.grow_tr hgr' g'), h'⟩
    replace hcons := (if_neg h8).symm.trans ((if_neg h7).symm.trans ((if_neg h6).symm.trans hcons))
    (repeat' (first|refine zza ?_|refine zc9 ?_|refine zzb fun w hw => ?_|refine zzh fun _ => ?_|refine zzi fun _ _ => ?_|refine zzj (fun _ => ?_) fun _ => ?_))
    repeat (refine CW_seq ?_; (repeat' (first|refine zza ?_|refine zc9 ?_|refine zzb fun w hw => ?_|refine zzh fun _ => ?_|refine zzi fun _ _ => ?_|refine zzj (fun _ => ?_) fun _ => ?_)))
    (apply WL_callUP1 (h := wkr b p L.length c (k + 1) d); (first | exact .here | exact .there .here | exact .there (.there .here) | exact .there (.there (.there .here)) | exact .there (.there (.there (.there .here))) | exact .there (.there (.there (.there (.there .here)))) | exact .there (.there (.there (.there (.there (.there .here)))))); (first | exact .here | exact .there .here | exact .there (.there .here) | exact .there (.there (.there .here)) | exact .there (.there (.there (.there .here))) | exact .there (.there (.there (.there (.there .here)))) | exact .there (.there (.there (.there (.there (.there .here)))))); rfl; rfl; rfl; (intro W fp hO hS; exact tree_fail b p L.length c (k + 1) d G W fp hO hS))
    (repeat' (first|refine zza ?_|refine zc9 ?_|refine zzb fun w hw => ?_|refine zzh fun _ => ?_|refine zzi fun _ _ => ?_|refine zzj (fun _ => ?_) fun _ => ?_))
    exact .inr ⟨((k + 1 : Nat) : Int), hZ.trans hcons.symm, rfl, Rd.grow_refl _ _, hw.ent zent⟩
end Go.Proofs.YtllgkdkjcbohcaaGreatDoor
namespace Go.Proofs.YtllgkdkjcbohcaaGreatDoor
open Go.RowKit
theorem results_c2 {fn : Func} {t1 t2 : Tmp} {T1 T2 : TypeId} {P : Program} (hr : fn.results = #[.cell t1 T1, .cell t2 T2]) [S1 : NAgg P T1] [S2 : NAgg P T2] {tmps : Array Value} {w : World} {b1 b2 : Nat} (h1 : tmps.getD t1 undef = .pointer (some ⟨b1, 0, none⟩)) (h2 : tmps.getD t2 undef = .pointer (some ⟨b2, 0, none⟩))
    {v1 v2 : Value} {U1 U2 : TypeId} (c1 : w.heap[b1]? = some (.cells #[v1] U1 (0, 0))) (c2 : w.heap[b2]? = some (.cells #[v2] U2 (0, 0))) :
    (results fn tmps).run P w = .ok (.tuple #[v1, v2]) w := by
  have e1 : w.cell? ⟨b1, 0, none⟩ = some v1 := by simp [World.cell?, c1]
  have e2 : w.cell? ⟨b2, 0, none⟩ = some v2 := by simp [World.cell?, c2]
  rw [Array.getD_eq_getD_getElem?] at h1 h2
  simp [results, hr, h1, h2, loadVar, S1.agg, S2.agg, e1, e2, go_sem]
/-- how a line lies in memory -/
def repL (t : Option Nod × Ex) (G : Rd) (v : Value) : Prop := match t.1 with
  | none => t.2.rep G v
  | some n => ∃ u, v = .iface 147 (.agg #[.string ⟨n.text.toArray⟩, u]) ∧ t.2.rep G u
/-- what the reading of a line tells -/
def TreadPost (L : List NodM) (w : World) (e : Ending) (w' : World) : Prop :=
  (∃ z : Rd × (Option Nod × Ex) × Value, (treeG (L.map NodM.nod) = some z.2.1 ∧ L.length ≤ 400 ∧ repL z.2.1 z.1 z.2.2) ∧ e = .returned (.tuple #[z.2.2, .nilIface]) ∧ Rd.grow w w.cell? z.1 ∧ Holds w [] [ro w [] z.1] w') ∨
  (treeF (L.map NodM.nod) ≠ 0 ∧ e = .returned (.tuple #[.nilIface, errV 49 (treeF (L.map NodM.nod))]) ∧ Below w.heap.size w w')
set_option maxRecDepth 100000 in
theorem tread_idle (b2 b3 : Nat) (w : World) :
    CallsD Tryz.prog 72 #[.pointer (some ⟨b2, 0, none⟩), .pointer (some ⟨b3, 0, none⟩)] .returning w fun e u w' => u = .returning ∧ (e = .returned (.tuple #[]) ∧ Below w.heap.size w w') := by
  refine callsD_rec (args := [_, _]) (m := []) (F := []) Tryz.func72 rfl Tryz.ntmps72 (by simp) (by decide) (.inl ⟨rfl, rfl, rfl⟩) rfl ?_
  (repeat' (first|refine zza ?_|refine zc9 ?_|refine zzb fun w hw => ?_|refine zzh fun _ => ?_|refine zzi fun _ _ => ?_|refine zzj (fun _ => ?_) fun _ => ?_))
  exact ⟨rfl, hw.below⟩
set_option maxRecDepth 100000 in
theorem tread_catch (b2 b3 : Nat) (v2 v3 : Value) (y : Int) (w : World) (F : List Nat) (hm : Own [blk b2 90 #[v2], blk b3 24 #[v3]] F w) :
    CallsD Tryz.prog 72 #[.pointer (some ⟨b2, 0, none⟩), .pointer (some ⟨b3, 0, none⟩)] (.panicking (wrongP y)) w fun e u w' => u = .panicking [{ v := wrongV y, recovered := true }] ∧ (e = .returned (.tuple #[]) ∧ Holds w F [blk b2 90 #[.nilIface], blk b3 24 #[.iface 49 (.int .i64 1)]] w') := by
  refine callsD_rec (args := [_, _]) Tryz.func72 rfl Tryz.ntmps72 (by simp) (by decide) (.inr ⟨[], rfl, rfl⟩) hm ?_
  unfold wrongV
  (repeat' (first|refine zza ?_|refine zc9 ?_|refine zzb fun w hw => ?_|refine zzh fun _ => ?_|refine zzi fun _ _ => ?_|refine zzj (fun _ => ?_) fun _ => ?_))
  exact ⟨rfl, hw.ent zent⟩
theorem Holds.allT {w0 w : World} {F : List Nat} {m : List HP} (h : Holds w0 F m w) : ∃ fp, Own m fp w ∧ ∀ m' w', Holds w fp m' w' → Holds w0 F m' w' := by
  obtain ⟨fp, ho, hF⟩ := h.own
  refine ⟨fp, ho, fun m' w' k => ⟨⟨k.keep.os.trans h.keep.os, k.keep.tape.trans h.keep.tape, k.keep.output.trans h.keep.output, Nat.le_trans h.keep.size k.keep.size, fun i hi hiF => (k.keep.block i (Nat.lt_of_lt_of_le hi h.keep.size) (fun hfp => hiF (hF i hfp hi))).trans (h.keep.block i hi hiF)⟩, ?_⟩⟩
  obtain ⟨g, hg, hgl⟩ := k.own
  exact ⟨g, hg, fun i hi h0 => hF i (hgl i hi (Nat.lt_of_lt_of_le h0 h.keep.size)) h0⟩
theorem Ent.roBase {m m' : List HP} {w0 : World} (k : Ent m m') : Ent m (ro w0 [] w0.cell? :: m') := fun fp w ho => by
  obtain ⟨f, h, hs⟩ := k fp w ho
  exact ⟨f, ⟨[], f, rfl, ⟨by simp, fun a v e => .inr ⟨cell_lt e, by simp, e⟩⟩, h, by simp⟩, hs⟩
theorem treeG_cons (n : Nod) (r : List Nod) : treeG (n :: r) = if n.op = 9 ∧ rightN n = true then (match exF 0 r with
      | some (e, []) => some (some n, e)
      | _ => none)
    else match exF 0 (n :: r) with
      | some (e, []) => some (none, e)
      | _ => none := rfl
set_option maxHeartbeats 8000000 in
set_option maxRecDepth 100000 in
theorem tree_read (p : Option Addr) (c : Nat) (L : List NodM) (u0 : World) (hR : Row nodE 7 u0.cell? p c L) (hB : ∀ x ∈ L, NodG u0.cell? x) (hG : GlobA u0) :
    Calls Tryz.prog 44 #[.slice p L.length c] u0 (TreadPost L u0) := by
  have hLl := hR.len
  refine enterD (args := [_]) (m := [ro u0 [] u0.cell?]) (F := []) Tryz.func44 rfl Tryz.ntmps44 (by simp) ⟨[], [], rfl, ⟨by simp, fun a v e => .inr ⟨cell_lt e, by simp, e⟩⟩, rfl, by simp⟩ ?_
  by_cases h400 : (400 : Int) < (L.length : Int)
  · have hr : treeF (L.map NodM.nod) = 7 := by unfold treeF; rw [List.length_map, if_pos (by omega)]
    (repeat' (first|refine zza ?_|refine zc9 ?_|refine zzb fun w hw => ?_|refine zzh fun _ => ?_|refine zzi fun _ _ => ?_|refine zzj (fun _ => ?_) fun _ => ?_))
    refine EX_retD0 rfl fun a w' hf hm => ⟨_, results_c2 rfl (hf.get 2 _ rfl) (hf.get 3 _ rfl) (hm.blk zpk) (hm.blk zpk), ?_⟩
    exact .inr ⟨by rw [hr]; decide, by rw [hr]; rfl, hm.below⟩
  have hL400 : L.length ≤ 400 := by omega
  have hF : treeF (L.map NodM.nod) = if (treeG (L.map NodM.nod)).isSome then 0 else 1 := by unfold treeF; rw [List.length_map, if_neg (by omega)]
  (repeat' (first|refine zza ?_|refine zc9 ?_|refine zzb fun w hw => ?_|refine zzh fun _ => ?_|refine zzi fun _ _ => ?_|refine zzj (fun _ => ?_) fun _ => ?_))
  rename_i b2 b3
  apply WL_op rfl rfl (y_makeFunc rfl)
  refine WL_defer rfl rfl rfl ?_
  have hGa : ∀ W : World, Keep u0 [] W → GlobA W := fun W hk => hG.below hk.toBelow
  (repeat' (first|refine zza ?_|refine zc9 ?_|refine zzb fun w hw => ?_|refine zzh fun _ => ?_|refine zzi fun _ _ => ?_))
  rename_i b5
  refine CW_ent (m' := [ro u0 [] u0.cell?, wkr b5 p L.length c 0 0, blk b2 90 #[.nilIface], blk b3 24 #[.nilIface]]) (Ent.cons (.there (.there (.there .here))) (Ent.consK (k := Ent.cons (.there .here) (Ent.cons .here Ent.nil)) .here)) ?_
  have hpan : ∀ (ρ : Env) (m : List HP) (v2 : Value) (y : Int), ρ.find 2 = some (.pointer (some ⟨b2, 0, none⟩)) → ρ.find 3 = some (.pointer (some ⟨b3, 0, none⟩)) → Ent m [blk b2 90 #[v2], blk b3 24 #[.nilIface]] → treeG (L.map NodM.nod) = none →
      EX (⟨53, [{ target := .fn (.func 72) #[.pointer (some ⟨b2, 0, none⟩), .pointer (some ⟨b3, 0, none⟩)], args := #[] }], u0, []⟩ : Cx) (QBodyD Tryz.prog Tryz.f44 (TreadPost L u0)) (.panic (wrongP y)) ρ m := by
    intro ρ m v2 y h2 h3 he hno
    refine EX_panD1 rfl fun a' w' hf hm => ?_
    obtain ⟨fp, ho, hth⟩ := (hm.ent he).allT
    refine (tread_catch b2 b3 _ _ y w' fp ho).mono ?_
    rintro e u w2 ⟨rfl, hh⟩
    obtain ⟨rfl, hh⟩ := hh
    have hm2 := hth _ _ hh
    have h1 : treeF (L.map NodM.nod) = 1 := by rw [hF, hno]; rfl
    refine ⟨_, rfl, rfl, _, results_c2 rfl (hf.get 2 _ h2) (hf.get 3 _ h3) (hm2.blk .here) (hm2.blk (.there .here)), ?_⟩
    exact .inr ⟨by rw [h1]; decide, by rw [h1]; rfl, hm2.below⟩
  by_cases hset : ∃ x, L[0]? = some x ∧ x.op = 9 ∧ rightN x.nod = true
  · obtain ⟨x, hx, hx9, hxr⟩ := hset
    have hpos : 0 < L.length := (List.getElem?_eq_some_iff.1 hx).1
    have hxB := hB x (List.mem_of_getElem? hx)
    have hTG : treeG (L.map NodM.nod) = (match exF 0 (nodsL L 1) with
        | some (e, []) => some (some x.nod, e)
        | _ => none) := by
      have h0 := nodsL_cons hx
      unfold nodsL at h0
      rw [List.drop_zero] at h0
      rw [h0, treeG_cons, if_pos ⟨hx9, hxr⟩]
    refine CW_cutK (X := Rd × Ex × Nat × Value) [(0,_),(2,_),(3,_),(4,_)] zcov (fun _ => []) (fun z => [ro u0 [] z.1, wkr b5 p L.length c z.2.2.1 0, blk b2 90 #[.iface 147 (.agg #[.string ⟨x.text.toArray⟩, z.2.2.2])], blk b3 24 #[.nilIface]]) (fun z => exF 0 (nodsL L 1) = some (z.2.1, nodsL L z.2.2.1) ∧ z.2.2.1 ≤ L.length ∧ z.2.1.rep z.1 z.2.2.2 ∧ Rd.grow u0 u0.cell? z.1) (fun _ => ?_) ?_
    · have hright := fun (W : World) (hg : GlobA W) => tree_right x W hxB.text hxB.numsL hg
      rw [hxr] at hright
      (repeat' (first|refine zza ?_|refine zc9 ?_|refine zzb fun w hw => ?_|refine zzh fun _ => ?_|refine zzi fun _ _ => ?_))
      (apply WL_callV; rfl; rfl; rfl; (intro W hW; exact hright W (hGa W hW.keep)))
      (repeat' (first|refine zza ?_|refine zzb fun w hw => ?_|refine zzh fun _ => ?_|refine zzi fun _ _ => ?_|refine zzj (fun _ => ?_) fun _ => ?_))
      refine CW_ent (m' := [wkr b5 p L.length c 1 0, ro u0 [] u0.cell?, blk b2 90 #[.nilIface], blk b3 24 #[.nilIface]]) (Ent.consK (k := Ent.cons .here (Ent.cons .here (Ent.cons .here Ent.nil))) .here) ?_
      refine CW_perm 7 [0, 1, 2, 3, 4, 5, 6] [ro u0 [] u0.cell?, blk b2 90 #[.nilIface], blk b3 24 #[.nilIface]] [(2, .pointer (some ⟨b2, 0, none⟩)), (3, .pointer (some ⟨b3, 0, none⟩))] zcov (pm := [wkr b5 p L.length c 1 0, ro u0 [] u0.cell?]) (Ent.cons .here (Ent.cons .here (Ent.roBase (Ent.cons .here (Ent.cons .here Ent.nil))))) (by kernel_rfl) (by decide +kernel) (by kernel_rfl) ?_
      (refine WP_op rfl rfl rfl zyi ?_)
      (refine WP_op rfl rfl rfl zyi ?_)
      (refine WP_op rfl rfl rfl zyi ?_)
      (refine WP_op rfl rfl rfl zyi ?_)
      (refine WP_op rfl rfl rfl zyi ?_)
      (refine WP_op rfl rfl rfl zyi ?_)
      refine WP_callG (m1 := [wkr b5 p L.length c 1 0]) (r := [blk b2 90 #[.nilIface], blk b3 24 #[.nilIface]]) (X := Rd × Ex × Nat × Value) (Y := Int) (V := fun z => z.2.2.2) (Gx := fun z => z.1) (M := fun z => [wkr b5 p L.length c z.2.2.1 0]) (I := fun z => exF 0 (nodsL L 1) = some (z.2.1, nodsL L z.2.2.1) ∧ 1 < z.2.2.1 ∧ z.2.2.1 ≤ L.length ∧ z.2.1.rep z.1 z.2.2.2) (C := wrongP) (Gy := fun _ => u0.cell?) (MP := fun _ => []) (J := fun _ => exF 0 (nodsL L 1) = none) rfl zent (by decide +kernel) rfl rfl rfl (fun W fp' hW hO hS hF => tree_expression p c L hL400 _ b5 1 0 u0.cell? W fp' (Nat.le_refl _) (by omega) (by omega) hR hB hO hS (fun W' hk' => hGa W' (hW.keep.tr hk' hF))) (fun z _ => ⟨[], Ent.roBase (Ent.cons (.there (.there .here)) (Ent.cons (.there (.there .here)) Ent.nil))⟩) ?_ ?_
      case refine_2 =>
        rintro y hno _
        have hno' : treeG (L.map NodM.nod) = none := by rw [hTG, hno]
        (repeat' (first|refine zza ?_|refine zc9 ?_|refine zzb fun w hw => ?_|refine zzh fun _ => ?_|refine zzi fun _ _ => ?_|refine zzj (fun _ => ?_) fun _ => ?_))
        exact hpan _ _ _ y rfl rfl zent hno'
      rintro ⟨G1, e1, k1, v1⟩ ⟨he1, hk1, hk1L, hr1⟩ hg1
      dsimp only at he1 hk1 hk1L hr1 hg1 ⊢
      obtain ⟨T1, u1, rfl⟩ := Ex.rep_iface hr1
      refine WP_end ?_
      (repeat' (first|refine zza ?_|refine zc9 ?_|refine zzb fun w hw => ?_|refine zzh fun _ => ?_|refine zzi fun _ _ => ?_|refine zzj (fun _ => ?_) fun _ => ?_))
      exact EX_mid' (G1, e1, k1, .iface T1 u1) ⟨zcov, zent, he1, hk1L, hr1, hg1⟩
    rintro ⟨G1, e, k', v⟩ ⟨hex, hk', hrep, hgr⟩
    dsimp only at hex hk' hrep hgr ⊢
    have hnil : k' = L.length → nodsL L k' = [] := fun h => by unfold nodsL; rw [List.drop_eq_nil_of_le (by omega)]; rfl
    by_cases hlt : k' < L.length
    · have hno : treeG (L.map NodM.nod) = none := by
        rw [hTG, hex, nodsL_cons (L := L) (k := k') (x := L[k']) (by simp [hlt])]
      refine CW_seq ?_
      (repeat' (first|refine zza ?_|refine zc9 ?_|refine zzb fun w hw => ?_|refine zzh fun _ => ?_|refine zzi fun _ _ => ?_|refine zzj (fun _ => ?_) fun _ => ?_))
      (apply WL_callUP1 (h := wkr b5 p L.length c k' 0); (first | exact .here | exact .there .here | exact .there (.there .here) | exact .there (.there (.there .here)) | exact .there (.there (.there (.there .here))) | exact .there (.there (.there (.there (.there .here)))) | exact .there (.there (.there (.there (.there (.there .here)))))); (first | exact .here | exact .there .here | exact .there (.there .here) | exact .there (.there (.there .here)) | exact .there (.there (.there (.there .here))) | exact .there (.there (.there (.there (.there .here)))) | exact .there (.there (.there (.there (.there (.there .here)))))); rfl; rfl; rfl; (intro W fp hO hS; exact tree_fail b5 p L.length c k' 0 G1 W fp hO hS))
      (repeat' (first|refine zza ?_|refine zc9 ?_|refine zzb fun w hw => ?_|refine zzh fun _ => ?_|refine zzi fun _ _ => ?_|refine zzj (fun _ => ?_) fun _ => ?_))
      exact hpan _ _ _ _ rfl rfl zent hno
    · have hk : k' = L.length := by omega
      have hyes : treeG (L.map NodM.nod) = some (some x.nod, e) := by rw [hTG, hex, hnil hk]
      refine CW_seq ?_
      (repeat' (first|refine zza ?_|refine zc9 ?_|refine zzb fun w hw => ?_|refine zzh fun _ => ?_|refine zzi fun _ _ => ?_|refine zzj (fun _ => ?_) fun _ => ?_))
      refine EX_retD1 rfl fun a w' hf hm => (tread_idle b2 b3 w').mono ?_
      rintro e' u w2 ⟨rfl, rfl, hb⟩
      have hm2 := hm.grow hb
      refine ⟨_, rfl, rfl, _, results_c2 rfl (hf.get 2 _ rfl) (hf.get 3 _ rfl) (hm2.blk zpk) (hm2.blk zpk), ?_⟩
      exact .inl ⟨(G1, (some x.nod, e), .iface 147 (.agg #[.string ⟨x.text.toArray⟩, v])), ⟨hyes, hL400, ⟨v, rfl, hrep⟩⟩, rfl, hgr, hm2.ent zent⟩
  · have hTG : treeG (L.map NodM.nod) = (match exF 0 (nodsL L 0) with
        | some (e, []) => some (none, e)
        | _ => none) := by
      cases L with
      | nil => rw [show nodsL [] 0 = [] from rfl, exF_nil]; rfl
      | cons x r =>
        have : ¬ (x.nod.op = 9 ∧ rightN x.nod = true) := fun h => hset ⟨x, rfl, h.1, h.2⟩
        rw [List.map_cons, treeG_cons, if_neg this]
        rfl
    refine CW_cutK (X := Rd × Ex × Nat × Value) [(0,_),(2,_),(3,_),(4,_)] zcov (fun _ => []) (fun z => [ro u0 [] z.1, wkr b5 p L.length c z.2.2.1 0, blk b2 90 #[z.2.2.2], blk b3 24 #[.nilIface]]) (fun z => exF 0 (nodsL L 0) = some (z.2.1, nodsL L z.2.2.1) ∧ z.2.2.1 ≤ L.length ∧ z.2.1.rep z.1 z.2.2.2 ∧ Rd.grow u0 u0.cell? z.1) (fun _ => ?_) ?_
    · by_cases hpos : 0 < L.length
      · obtain ⟨x, hx⟩ : ∃ x, L[0]? = some x := ⟨L[0], by simp [hpos]⟩
        have hxB := hB x (List.mem_of_getElem? hx)
        by_cases hx9 : x.op = 9
        · have hxr : rightN x.nod = false := by
            cases h : rightN x.nod with
            | false => rfl
            | true => exact absurd ⟨x, hx, hx9, h⟩ hset
          have hright := fun (W : World) (hg : GlobA W) => tree_right x W hxB.text hxB.numsL hg
          rw [hxr] at hright
          (repeat' (first|refine zza ?_|refine zc9 ?_|refine zzb fun w hw => ?_|refine zzh fun _ => ?_|refine zzi fun _ _ => ?_))
          (apply WL_callV; rfl; rfl; rfl; (intro W hW; exact hright W (hGa W hW.keep)))
          (repeat' (first|refine zza ?_|refine zc9 ?_|refine zzb fun w hw => ?_|refine zzh fun _ => ?_|refine zzi fun _ _ => ?_|refine zzj (fun _ => ?_) fun _ => ?_))
          refine WL_callGP (m1 := [wkr b5 p L.length c 0 0]) (r := [blk b2 90 #[.nilIface], blk b3 24 #[.nilIface]]) (X := Rd × Ex × Nat × Value) (Y := Int) (V := fun z => z.2.2.2) (Gx := fun z => z.1) (M := fun z => [wkr b5 p L.length c z.2.2.1 0]) (I := fun z => exF 0 (nodsL L 0) = some (z.2.1, nodsL L z.2.2.1) ∧ 0 < z.2.2.1 ∧ z.2.2.1 ≤ L.length ∧ z.2.1.rep z.1 z.2.2.2) (C := wrongP) (Gy := fun _ => u0.cell?) (MP := fun _ => []) (J := fun _ => exF 0 (nodsL L 0) = none) zent rfl rfl rfl (fun W fp' hW hO hS hF => tree_expression p c L hL400 _ b5 0 0 u0.cell? W fp' (Nat.le_refl _) (by omega) (by omega) hR hB hO hS (fun W' hk' => hGa W' (hW.keep.tr hk' hF))) ?_ ?_
          case refine_2 =>
            rintro y hno _
            have hno' : treeG (L.map NodM.nod) = none := by rw [hTG, hno]
            (repeat' (first|refine zza ?_|refine zc9 ?_|refine zzb fun w hw => ?_|refine zzh fun _ => ?_|refine zzi fun _ _ => ?_|refine zzj (fun _ => ?_) fun _ => ?_))
            exact hpan _ _ _ y rfl rfl zent hno'
          rintro ⟨G1, e1, k1, v1⟩ ⟨he1, hk1, hk1L, hr1⟩ hg1
          dsimp only at he1 hk1 hk1L hr1 hg1 ⊢
          obtain ⟨T1, u1, rfl⟩ := Ex.rep_iface hr1
          (repeat' (first|refine zza ?_|refine zc9 ?_|refine zzb fun w hw => ?_|refine zzh fun _ => ?_|refine zzi fun _ _ => ?_|refine zzj (fun _ => ?_) fun _ => ?_))
          exact EX_mid' (G1, e1, k1, .iface T1 u1) ⟨zcov, zent, he1, hk1L, hr1, hg1⟩
        · (repeat' (first|refine zza ?_|refine zc9 ?_|refine zzb fun w hw => ?_|refine zzh fun _ => ?_|refine zzi fun _ _ => ?_|refine zzj (fun _ => ?_) fun _ => ?_))
          refine WL_callGP (m1 := [wkr b5 p L.length c 0 0]) (r := [blk b2 90 #[.nilIface], blk b3 24 #[.nilIface]]) (X := Rd × Ex × Nat × Value) (Y := Int) (V := fun z => z.2.2.2) (Gx := fun z => z.1) (M := fun z => [wkr b5 p L.length c z.2.2.1 0]) (I := fun z => exF 0 (nodsL L 0) = some (z.2.1, nodsL L z.2.2.1) ∧ 0 < z.2.2.1 ∧ z.2.2.1 ≤ L.length ∧ z.2.1.rep z.1 z.2.2.2) (C := wrongP) (Gy := fun _ => u0.cell?) (MP := fun _ => []) (J := fun _ => exF 0 (nodsL L 0) = none) zent rfl rfl rfl (fun W fp' hW hO hS hF => tree_expression p c L hL400 _ b5 0 0 u0.cell? W fp' (Nat.le_refl _) (by omega) (by omega) hR hB hO hS (fun W' hk' => hGa W' (hW.keep.tr hk' hF))) ?_ ?_
          case refine_2 =>
            rintro y hno _
            have hno' : treeG (L.map NodM.nod) = none := by rw [hTG, hno]
            (repeat' (first|refine zza ?_|refine zc9 ?_|refine zzb fun w hw => ?_|refine zzh fun _ => ?_|refine zzi fun _ _ => ?_|refine zzj (fun _ => ?_) fun _ => ?_))
            exact hpan _ _ _ y rfl rfl zent hno'
          rintro ⟨G1, e1, k1, v1⟩ ⟨he1, hk1, hk1L, hr1⟩ hg1
          dsimp only at he1 hk1 hk1L hr1 hg1 ⊢
          obtain ⟨T1, u1, rfl⟩ := Ex.rep_iface hr1
          (repeat' (first|refine zza ?_|refine zc9 ?_|refine zzb fun w hw => ?_|refine zzh fun _ => ?_|refine zzi fun _ _ => ?_|refine zzj (fun _ => ?_) fun _ => ?_))
          exact EX_mid' (G1, e1, k1, .iface T1 u1) ⟨zcov, zent, he1, hk1L, hr1, hg1⟩
      · (repeat' (first|refine zza ?_|refine zc9 ?_|refine zzb fun w hw => ?_|refine zzh fun _ => ?_|refine zzi fun _ _ => ?_|refine zzj (fun _ => ?_) fun _ => ?_))
        refine WL_callGP (m1 := [wkr b5 p L.length c 0 0]) (r := [blk b2 90 #[.nilIface], blk b3 24 #[.nilIface]]) (X := Rd × Ex × Nat × Value) (Y := Int) (V := fun z => z.2.2.2) (Gx := fun z => z.1) (M := fun z => [wkr b5 p L.length c z.2.2.1 0]) (I := fun z => exF 0 (nodsL L 0) = some (z.2.1, nodsL L z.2.2.1) ∧ 0 < z.2.2.1 ∧ z.2.2.1 ≤ L.length ∧ z.2.1.rep z.1 z.2.2.2) (C := wrongP) (Gy := fun _ => u0.cell?) (MP := fun _ => []) (J := fun _ => exF 0 (nodsL L 0) = none) zent rfl rfl rfl (fun W fp' hW hO hS hF => tree_expression p c L hL400 _ b5 0 0 u0.cell? W fp' (Nat.le_refl _) (by omega) (by omega) hR hB hO hS (fun W' hk' => hGa W' (hW.keep.tr hk' hF))) ?_ ?_
        case refine_2 =>
          rintro y hno _
          have hno' : treeG (L.map NodM.nod) = none := by rw [hTG, hno]
          (repeat' (first|refine zza ?_|refine zc9 ?_|refine zzb fun w hw => ?_|refine zzh fun _ => ?_|refine zzi fun _ _ => ?_|refine zzj (fun _ => ?_) fun _ => ?_))
          exact hpan _ _ _ y rfl rfl zent hno'
        rintro ⟨G1, e1, k1, v1⟩ ⟨he1, hk1, hk1L, hr1⟩ hg1
        dsimp only at he1 hk1 hk1L hr1 hg1 ⊢
        obtain ⟨T1, u1, rfl⟩ := Ex.rep_iface hr1
        (repeat' (first|refine zza ?_|refine zc9 ?_|refine zzb fun w hw => ?_|refine zzh fun _ => ?_|refine zzi fun _ _ => ?_|refine zzj (fun _ => ?_) fun _ => ?_))
        exact EX_mid' (G1, e1, k1, .iface T1 u1) ⟨zcov, zent, he1, hk1L, hr1, hg1⟩
    rintro ⟨G1, e, k', v⟩ ⟨hex, hk', hrep, hgr⟩
    dsimp only at hex hk' hrep hgr ⊢
    obtain ⟨T1, u1, rfl⟩ := Ex.rep_iface hrep
    have hnil : k' = L.length → nodsL L k' = [] := fun h => by unfold nodsL; rw [List.drop_eq_nil_of_le (by omega)]; rfl
    by_cases hlt : k' < L.length
    · have hno : treeG (L.map NodM.nod) = none := by
        rw [hTG, hex, nodsL_cons (L := L) (k := k') (x := L[k']) (by simp [hlt])]
      refine CW_seq ?_
      (repeat' (first|refine zza ?_|refine zc9 ?_|refine zzb fun w hw => ?_|refine zzh fun _ => ?_|refine zzi fun _ _ => ?_|refine zzj (fun _ => ?_) fun _ => ?_))
      (apply WL_callUP1 (h := wkr b5 p L.length c k' 0); (first | exact .here | exact .there .here | exact .there (.there .here) | exact .there (.there (.there .here)) | exact .there (.there (.there (.there .here))) | exact .there (.there (.there (.there (.there .here)))) | exact .there (.there (.there (.there (.there (.there .here)))))); (first | exact .here | exact .there .here | exact .there (.there .here) | exact .there (.there (.there .here)) | exact .there (.there (.there (.there .here))) | exact .there (.there (.there (.there (.there .here)))) | exact .there (.there (.there (.there (.there (.there .here)))))); rfl; rfl; rfl; (intro W fp hO hS; exact tree_fail b5 p L.length c k' 0 G1 W fp hO hS))
      (repeat' (first|refine zza ?_|refine zc9 ?_|refine zzb fun w hw => ?_|refine zzh fun _ => ?_|refine zzi fun _ _ => ?_|refine zzj (fun _ => ?_) fun _ => ?_))
      exact hpan _ _ _ _ rfl rfl zent hno
    · have hk : k' = L.length := by omega
      have hyes : treeG (L.map NodM.nod) = some (none, e) := by rw [hTG, hex, hnil hk]
      refine CW_seq ?_
      (repeat' (first|refine zza ?_|refine zc9 ?_|refine zzb fun w hw => ?_|refine zzh fun _ => ?_|refine zzi fun _ _ => ?_|refine zzj (fun _ => ?_) fun _ => ?_))
      refine EX_retD1 rfl fun a w' hf hm => (tread_idle b2 b3 w').mono ?_
      rintro e' u w2 ⟨rfl, rfl, hb⟩
      have hm2 := hm.grow hb
      refine ⟨_, rfl, rfl, _, results_c2 rfl (hf.get 2 _ rfl) (hf.get 3 _ rfl) (hm2.blk zpk) (hm2.blk zpk), ?_⟩
      exact .inl ⟨(G1, (none, e), .iface T1 u1), ⟨hyes, hL400, hrep⟩, rfl, hgr, hm2.ent zent⟩
end Go.Proofs.YtllgkdkjcbohcaaGreatDoor
